/- The document's Of: a call out of whole numbers. -/
import Derived.Test.YtinlpjgjjplceaaDoorCcJ0
import Derived.Test.YtinlpjgjjplceaaDoorCaN
import Derived.Deep.CutRange
import Derived.Deep.CutBlock
namespace Go.Proofs.YtinlpjgjjplceaaDoor
open Go Go.RowKit

def OfR (w' : World) (k : Nat) (L l : List Nat) (v : Value) (e : Ending) : Prop := e = .returned (.agg (clc (ofK k L l) v)) ∧ True
theorem RW_cells {w : World} {v : Value} {L : List Nat} (h : RW w v L) (hp : 0 < L.length) : ∃ g off c, v = .slice (some ⟨g, off, none⟩) L.length c ∧ g < w.heap.size ∧ ∀ j, (hj : j < L.length) → w.cell? ⟨g, off + j, none⟩ = some (.int .u64 (L[j] : Nat)) := by
  obtain ⟨A, c, rfl⟩ := RE.form h
  obtain ⟨g, off, rfl⟩ := RE.addr h hp
  have hc : ∀ j, (hj : j < L.length) → w.cell? ⟨g, off + j, none⟩ = some (.int .u64 (L[j] : Nat)) := fun j hj => by
    have := RE.cell wcl_len h hj (j := 0) (by omega) rfl
    rwa [Nat.mul_one, Nat.add_zero] at this
  exact ⟨g, off, c, rfl, World.block_lt_of_cell? _ _ (hc 0 hp), hc⟩
section
variable {ops : Array Oper} {rest : List Oper} {o : Oper} {a : Act} {w : World} {Q : Exit → Act → World → Prop} {b : Nat} {x y : Cl} {v u : Value}
theorem wpList_load34L (hg : o.guard = none) (z : Operand) (ho : o.op = .load 34 z) (hx : a.eval z = .pointer (some ⟨b, 0, none⟩)) (h0 : KB w b x v) (h : wpList Tryd.prog ops Q rest (a.put o.dst (.agg (clc x v))) w) : wpList Tryd.prog ops Q (o :: rest) a w := wpList_load34 hg z ho hx h0 h
theorem wpList_store34L (hg : o.guard = none) (z t : Operand) (ho : o.op = .store 34 z t) (hx : a.eval z = .pointer (some ⟨b, 0, none⟩)) (hy : a.eval t = .agg (clc y u)) (hu : u.oneCell' = true) (h0 : KB w b x v)
    (h : ∀ w', KB w' b y u → Chg [b] w w' → wpList Tryd.prog ops Q rest (a.put o.dst undef) w') : wpList Tryd.prog ops Q (o :: rest) a w := wpList_store34 hg z t ho hx hy hu h0 h
end
theorem u8_wrap (n : Nat) : IntKind.u8.wrap (n : Int) = ((n % 256 : Nat) : Int) := by rw [IntKind.wrap_u8]; omega
set_option maxRecDepth 20000 in
set_option maxHeartbeats 40000000 in
theorem Of_any {w : World} {k : Nat} {L : List Nat} {vL : Value} (hL : RW w vL L) (hn : L.length = cntK k) (h64 : ∀ n ∈ L, n < 18446744073709551616) (hk8 : k < 256) (l : List Nat) (A0 : Option Addr) (n0 c0 : Nat) :
    Calls Tryd.prog 45 #[.int .u8 k, vL, .slice A0 n0 c0] w fun e w' => e = .returned (.agg (clc (ofK k L l) (.slice A0 n0 c0))) ∧ Chg [] w w' := by
  have hwk : IntKind.u8.wrap (k : Int) = (k : Int) := by rw [IntKind.wrap_u8]; omega
  rcases (by omega : k = 0 ∨ k = 1 ∨ k = 2 ∨ k = 3 ∨ k = 4 ∨ k = 5 ∨ k = 6 ∨ k = 7 ∨ k = 8 ∨ k = 9 ∨ k = 10 ∨ k = 11 ∨ k = 12 ∨ k = 13 ∨ k = 14 ∨ k = 15 ∨ k = 16 ∨ k = 17 ∨ k = 18 ∨ k = 19 ∨ k = 20 ∨ k = 21 ∨ 22 ≤ k) with rfl | rfl | rfl | rfl | rfl | rfl | rfl | rfl | rfl | rfl | rfl | rfl | rfl | rfl | rfl | rfl | rfl | rfl | rfl | rfl | rfl | rfl | hk
  · obtain rfl : L = [] := List.eq_nil_of_length_eq_zero hn
    obtain ⟨AL, cL, rfl⟩ := RE.form hL
    clear hL h64 hn
    go_enter Tryd.func45, Tryd.ntmps45
    go_upto_region 2 with (first | (refine wpList_alloc34 rfl rfl ?_; try simp only [World.size_alloc]; try go_simp) | (refine wpList_store34 (b := w.heap.size + 1) (y := { zCl with k := 0 }) (u := zV) rfl _ _ rfl rfl rfl rfl (by have := Blk.new (w.alloc (.cells (clc zCl zV) 34)) 34 (clc zCl zV); rwa [World.size_alloc] at this) ?_; intro W3 h3 hc3))
    have HC3 := hide (show Chg [] w W3 from (((Chg.refl [] w).alloc _).alloc _).trans hc3 (fun y hy => .inr (by obtain rfl := List.mem_singleton.1 hy; omega)))
    have HB6 := hide (show KB W3 w.heap.size zCl zV from Blk.chg ((Blk.new w 34 _).alloc _) hc3 (by simp only [List.mem_singleton]; omega))
    obtain ⟨b6, e6⟩ : ∃ b, b = w.heap.size := ⟨_, rfl⟩
    obtain ⟨b7, e7⟩ : ∃ b, b = w.heap.size + 1 := ⟨_, rfl⟩
    rw [← e7, ← e6]
    rw [← e7] at h3
    rw [← e6] at HB6
    have HE := hide (And.intro e6 e7)
    have HK := hide h3
    obtain ⟨f0, f1, f2, f3, f4, f5, f6, f7, f8, f9, f10, f11, fl, ff⟩ := KB.cells h3
    clear h3 hc3 e6 e7
    have HKF := hide (show KB (W3.setCell ⟨b7, 11, none⟩ (.slice A0 n0 c0)) b7 (ofK 0 [] l) (.slice A0 n0 c0) from (KB.put (y := ofK 0 [] l) (u := .slice A0 n0 c0) (HK.out) 11 (.slice A0 n0 c0) rfl))
    have HCF := hide (show Chg [b7] W3 (W3.setCell ⟨b7, 11, none⟩ (.slice A0 n0 c0)) from ((Chg.refl [b7] W3).setCell (p := ⟨b7, 11, none⟩) (.inl (by simp)) (.slice A0 n0 c0)))
    have HB6F := hide (show KB (W3.setCell ⟨b7, 11, none⟩ (.slice A0 n0 c0)) b6 zCl zV from Blk.chg HB6.out HCF.out (by have := HE.out; simp only [List.mem_singleton]; omega))
    go_upto_region 60 with (fail)
    go_wp2_with (first | (refine wpList_load34L (b := b7) (x := ofK 0 [] l) (v := .slice A0 n0 c0) rfl _ rfl rfl ?_ ?_; (focus exact HKF.out)) | (refine wpList_store34L (b := b6) (x := zCl) (v := zV) (y := ofK 0 [] l) (u := .slice A0 n0 c0) rfl _ _ rfl rfl rfl rfl ?_ ?_; (focus exact HB6F.out); intro W7 h7 hc7))
    refine bodyPost_ret (v := .agg (clc (ofK 0 [] l) (.slice A0 n0 c0))) (results_cell_row (p := 6) (ty := 34) rfl _ _ b6 34 _ (0, 0) _ rfl h7 Tryd.underlying34 rfl info34) rfl ⟨rfl, ?_⟩
    exact (HC3.out.trans HCF.out (fun y hy => .inr (by obtain rfl := List.mem_singleton.1 hy; have := HE.out; omega))).trans hc7 (fun y hy => .inr (by obtain rfl := List.mem_singleton.1 hy; have := HE.out; omega))
  · obtain rfl : L = [] := List.eq_nil_of_length_eq_zero hn
    obtain ⟨AL, cL, rfl⟩ := RE.form hL
    clear hL h64 hn
    go_enter Tryd.func45, Tryd.ntmps45
    go_upto_region 2 with (first | (refine wpList_alloc34 rfl rfl ?_; try simp only [World.size_alloc]; try go_simp) | (refine wpList_store34 (b := w.heap.size + 1) (y := { zCl with k := 1 }) (u := zV) rfl _ _ rfl rfl rfl rfl (by have := Blk.new (w.alloc (.cells (clc zCl zV) 34)) 34 (clc zCl zV); rwa [World.size_alloc] at this) ?_; intro W3 h3 hc3))
    have HC3 := hide (show Chg [] w W3 from (((Chg.refl [] w).alloc _).alloc _).trans hc3 (fun y hy => .inr (by obtain rfl := List.mem_singleton.1 hy; omega)))
    have HB6 := hide (show KB W3 w.heap.size zCl zV from Blk.chg ((Blk.new w 34 _).alloc _) hc3 (by simp only [List.mem_singleton]; omega))
    obtain ⟨b6, e6⟩ : ∃ b, b = w.heap.size := ⟨_, rfl⟩
    obtain ⟨b7, e7⟩ : ∃ b, b = w.heap.size + 1 := ⟨_, rfl⟩
    rw [← e7, ← e6]
    rw [← e7] at h3
    rw [← e6] at HB6
    have HE := hide (And.intro e6 e7)
    have HK := hide h3
    obtain ⟨f0, f1, f2, f3, f4, f5, f6, f7, f8, f9, f10, f11, fl, ff⟩ := KB.cells h3
    clear h3 hc3 e6 e7
    have HKF := hide (show KB (W3.setCell ⟨b7, 11, none⟩ (.slice A0 n0 c0)) b7 (ofK 1 [] l) (.slice A0 n0 c0) from (KB.put (y := ofK 1 [] l) (u := .slice A0 n0 c0) (HK.out) 11 (.slice A0 n0 c0) rfl))
    have HCF := hide (show Chg [b7] W3 (W3.setCell ⟨b7, 11, none⟩ (.slice A0 n0 c0)) from ((Chg.refl [b7] W3).setCell (p := ⟨b7, 11, none⟩) (.inl (by simp)) (.slice A0 n0 c0)))
    have HB6F := hide (show KB (W3.setCell ⟨b7, 11, none⟩ (.slice A0 n0 c0)) b6 zCl zV from Blk.chg HB6.out HCF.out (by have := HE.out; simp only [List.mem_singleton]; omega))
    go_upto_region 60 with (fail)
    go_wp2_with (first | (refine wpList_load34L (b := b7) (x := ofK 1 [] l) (v := .slice A0 n0 c0) rfl _ rfl rfl ?_ ?_; (focus exact HKF.out)) | (refine wpList_store34L (b := b6) (x := zCl) (v := zV) (y := ofK 1 [] l) (u := .slice A0 n0 c0) rfl _ _ rfl rfl rfl rfl ?_ ?_; (focus exact HB6F.out); intro W7 h7 hc7))
    refine bodyPost_ret (v := .agg (clc (ofK 1 [] l) (.slice A0 n0 c0))) (results_cell_row (p := 6) (ty := 34) rfl _ _ b6 34 _ (0, 0) _ rfl h7 Tryd.underlying34 rfl info34) rfl ⟨rfl, ?_⟩
    exact (HC3.out.trans HCF.out (fun y hy => .inr (by obtain rfl := List.mem_singleton.1 hy; have := HE.out; omega))).trans hc7 (fun y hy => .inr (by obtain rfl := List.mem_singleton.1 hy; have := HE.out; omega))
  · obtain ⟨z0, rfl⟩ : ∃ z0, L = [z0] := by
      have hn2 : L.length = 1 := hn.trans (by decide)
      clear hn h64 hL
      match L, hn2 with
      | [z0], _ => exact ⟨_, rfl⟩
    obtain ⟨g, off, cL, rfl, hgl, hcell⟩ := RW_cells hL (by simp)
    have q0 := hcell 0 (by simp)
    simp at q0
    have x0 : IntKind.i64.wrap (z0 : Int) = iw64 z0 := i64_wrap (h64 z0 (by simp))
    clear hcell hL h64 hn
    go_enter Tryd.func45, Tryd.ntmps45
    go_upto_region 2 with (first | (refine wpList_alloc34 rfl rfl ?_; try simp only [World.size_alloc]; try go_simp) | (refine wpList_store34 (b := w.heap.size + 1) (y := { zCl with k := 2 }) (u := zV) rfl _ _ rfl rfl rfl rfl (by have := Blk.new (w.alloc (.cells (clc zCl zV) 34)) 34 (clc zCl zV); rwa [World.size_alloc] at this) ?_; intro W3 h3 hc3))
    have HC3 := hide (show Chg [] w W3 from (((Chg.refl [] w).alloc _).alloc _).trans hc3 (fun y hy => .inr (by obtain rfl := List.mem_singleton.1 hy; omega)))
    have HB6 := hide (show KB W3 w.heap.size zCl zV from Blk.chg ((Blk.new w 34 _).alloc _) hc3 (by simp only [List.mem_singleton]; omega))
    obtain ⟨b6, e6⟩ : ∃ b, b = w.heap.size := ⟨_, rfl⟩
    obtain ⟨b7, e7⟩ : ∃ b, b = w.heap.size + 1 := ⟨_, rfl⟩
    rw [← e7, ← e6]
    rw [← e7] at h3
    rw [← e6] at HB6
    have HE := hide (And.intro e6 e7)
    have HK := hide h3
    obtain ⟨f0, f1, f2, f3, f4, f5, f6, f7, f8, f9, f10, f11, fl, ff⟩ := KB.cells h3
    have hne : ¬ g = b7 := by omega
    have hne2 : ¬ b7 = g := by omega
    have r0 := Chg.cell HC3.out q0 List.not_mem_nil
    clear q0 hgl
    clear h3 hc3 e6 e7
    have HKF := hide (show KB ((W3.setCell ⟨b7, 1, none⟩ (.int .i64 (iw64 z0))).setCell ⟨b7, 11, none⟩ (.slice A0 n0 c0)) b7 (ofK 2 [z0] l) (.slice A0 n0 c0) from (KB.put (y := ofK 2 [z0] l) (u := .slice A0 n0 c0) ((KB.put (y := { zCl with k := 2, p := iw64 z0 }) (u := zV) (HK.out) 1 (.int .i64 (iw64 z0)) rfl)) 11 (.slice A0 n0 c0) rfl))
    have HCF := hide (show Chg [b7] W3 ((W3.setCell ⟨b7, 1, none⟩ (.int .i64 (iw64 z0))).setCell ⟨b7, 11, none⟩ (.slice A0 n0 c0)) from (((Chg.refl [b7] W3).setCell (p := ⟨b7, 1, none⟩) (.inl (by simp)) (.int .i64 (iw64 z0))).setCell (p := ⟨b7, 11, none⟩) (.inl (by simp)) (.slice A0 n0 c0)))
    have HB6F := hide (show KB ((W3.setCell ⟨b7, 1, none⟩ (.int .i64 (iw64 z0))).setCell ⟨b7, 11, none⟩ (.slice A0 n0 c0)) b6 zCl zV from Blk.chg HB6.out HCF.out (by have := HE.out; simp only [List.mem_singleton]; omega))
    go_upto_region 60 with (fail)
    go_wp2_with (first | (refine wpList_load34L (b := b7) (x := ofK 2 [z0] l) (v := .slice A0 n0 c0) rfl _ rfl rfl ?_ ?_; (focus exact HKF.out)) | (refine wpList_store34L (b := b6) (x := zCl) (v := zV) (y := ofK 2 [z0] l) (u := .slice A0 n0 c0) rfl _ _ rfl rfl rfl rfl ?_ ?_; (focus exact HB6F.out); intro W7 h7 hc7))
    refine bodyPost_ret (v := .agg (clc (ofK 2 [z0] l) (.slice A0 n0 c0))) (results_cell_row (p := 6) (ty := 34) rfl _ _ b6 34 _ (0, 0) _ rfl h7 Tryd.underlying34 rfl info34) rfl ⟨rfl, ?_⟩
    exact (HC3.out.trans HCF.out (fun y hy => .inr (by obtain rfl := List.mem_singleton.1 hy; have := HE.out; omega))).trans hc7 (fun y hy => .inr (by obtain rfl := List.mem_singleton.1 hy; have := HE.out; omega))
  · obtain ⟨z0, z1, z2, z3, rfl⟩ : ∃ z0 z1 z2 z3, L = [z0, z1, z2, z3] := by
      have hn2 : L.length = 4 := hn.trans (by decide)
      clear hn h64 hL
      match L, hn2 with
      | [z0, z1, z2, z3], _ => exact ⟨_, _, _, _, rfl⟩
    obtain ⟨g, off, cL, rfl, hgl, hcell⟩ := RW_cells hL (by simp)
    have q0 := hcell 0 (by simp)
    have q1 := hcell 1 (by simp)
    have q2 := hcell 2 (by simp)
    have q3 := hcell 3 (by simp)
    simp at q0 q1 q2 q3
    have x0 : IntKind.i64.wrap (z0 : Int) = iw64 z0 := i64_wrap (h64 z0 (by simp))
    have x1 : IntKind.i64.wrap (z1 : Int) = iw64 z1 := i64_wrap (h64 z1 (by simp))
    have x2 : IntKind.i64.wrap (z2 : Int) = iw64 z2 := i64_wrap (h64 z2 (by simp))
    have x3 := u8_wrap z3
    clear hcell hL h64 hn
    go_enter Tryd.func45, Tryd.ntmps45
    go_upto_region 2 with (first | (refine wpList_alloc34 rfl rfl ?_; try simp only [World.size_alloc]; try go_simp) | (refine wpList_store34 (b := w.heap.size + 1) (y := { zCl with k := 3 }) (u := zV) rfl _ _ rfl rfl rfl rfl (by have := Blk.new (w.alloc (.cells (clc zCl zV) 34)) 34 (clc zCl zV); rwa [World.size_alloc] at this) ?_; intro W3 h3 hc3))
    have HC3 := hide (show Chg [] w W3 from (((Chg.refl [] w).alloc _).alloc _).trans hc3 (fun y hy => .inr (by obtain rfl := List.mem_singleton.1 hy; omega)))
    have HB6 := hide (show KB W3 w.heap.size zCl zV from Blk.chg ((Blk.new w 34 _).alloc _) hc3 (by simp only [List.mem_singleton]; omega))
    obtain ⟨b6, e6⟩ : ∃ b, b = w.heap.size := ⟨_, rfl⟩
    obtain ⟨b7, e7⟩ : ∃ b, b = w.heap.size + 1 := ⟨_, rfl⟩
    rw [← e7, ← e6]
    rw [← e7] at h3
    rw [← e6] at HB6
    have HE := hide (And.intro e6 e7)
    have HK := hide h3
    obtain ⟨f0, f1, f2, f3, f4, f5, f6, f7, f8, f9, f10, f11, fl, ff⟩ := KB.cells h3
    have hne : ¬ g = b7 := by omega
    have hne2 : ¬ b7 = g := by omega
    have r0 := Chg.cell HC3.out q0 List.not_mem_nil
    have r1 := Chg.cell HC3.out q1 List.not_mem_nil
    have r2 := Chg.cell HC3.out q2 List.not_mem_nil
    have r3 := Chg.cell HC3.out q3 List.not_mem_nil
    clear q0 q1 q2 q3 hgl
    clear h3 hc3 e6 e7
    have HKF := hide (show KB (((((W3.setCell ⟨b7, 1, none⟩ (.int .i64 (iw64 z0))).setCell ⟨b7, 3, none⟩ (.int .i64 (iw64 z1))).setCell ⟨b7, 4, none⟩ (.int .i64 (iw64 z2))).setCell ⟨b7, 7, none⟩ (.int .u8 (z3 % 256 : Nat))).setCell ⟨b7, 11, none⟩ (.slice A0 n0 c0)) b7 (ofK 3 [z0, z1, z2, z3] l) (.slice A0 n0 c0) from (KB.put (y := ofK 3 [z0, z1, z2, z3] l) (u := .slice A0 n0 c0) ((KB.put (y := { zCl with k := 3, p := iw64 z0, g := iw64 z1, c := iw64 z2, r := z3 % 256 }) (u := zV) ((KB.put (y := { zCl with k := 3, p := iw64 z0, g := iw64 z1, c := iw64 z2 }) (u := zV) ((KB.put (y := { zCl with k := 3, p := iw64 z0, g := iw64 z1 }) (u := zV) ((KB.put (y := { zCl with k := 3, p := iw64 z0 }) (u := zV) (HK.out) 1 (.int .i64 (iw64 z0)) rfl)) 3 (.int .i64 (iw64 z1)) rfl)) 4 (.int .i64 (iw64 z2)) rfl)) 7 (.int .u8 (z3 % 256 : Nat)) rfl)) 11 (.slice A0 n0 c0) rfl))
    have HCF := hide (show Chg [b7] W3 (((((W3.setCell ⟨b7, 1, none⟩ (.int .i64 (iw64 z0))).setCell ⟨b7, 3, none⟩ (.int .i64 (iw64 z1))).setCell ⟨b7, 4, none⟩ (.int .i64 (iw64 z2))).setCell ⟨b7, 7, none⟩ (.int .u8 (z3 % 256 : Nat))).setCell ⟨b7, 11, none⟩ (.slice A0 n0 c0)) from ((((((Chg.refl [b7] W3).setCell (p := ⟨b7, 1, none⟩) (.inl (by simp)) (.int .i64 (iw64 z0))).setCell (p := ⟨b7, 3, none⟩) (.inl (by simp)) (.int .i64 (iw64 z1))).setCell (p := ⟨b7, 4, none⟩) (.inl (by simp)) (.int .i64 (iw64 z2))).setCell (p := ⟨b7, 7, none⟩) (.inl (by simp)) (.int .u8 (z3 % 256 : Nat))).setCell (p := ⟨b7, 11, none⟩) (.inl (by simp)) (.slice A0 n0 c0)))
    have HB6F := hide (show KB (((((W3.setCell ⟨b7, 1, none⟩ (.int .i64 (iw64 z0))).setCell ⟨b7, 3, none⟩ (.int .i64 (iw64 z1))).setCell ⟨b7, 4, none⟩ (.int .i64 (iw64 z2))).setCell ⟨b7, 7, none⟩ (.int .u8 (z3 % 256 : Nat))).setCell ⟨b7, 11, none⟩ (.slice A0 n0 c0)) b6 zCl zV from Blk.chg HB6.out HCF.out (by have := HE.out; simp only [List.mem_singleton]; omega))
    go_upto_region 60 with (fail)
    go_wp2_with (first | (refine wpList_load34L (b := b7) (x := ofK 3 [z0, z1, z2, z3] l) (v := .slice A0 n0 c0) rfl _ rfl rfl ?_ ?_; (focus exact HKF.out)) | (refine wpList_store34L (b := b6) (x := zCl) (v := zV) (y := ofK 3 [z0, z1, z2, z3] l) (u := .slice A0 n0 c0) rfl _ _ rfl rfl rfl rfl ?_ ?_; (focus exact HB6F.out); intro W7 h7 hc7))
    refine bodyPost_ret (v := .agg (clc (ofK 3 [z0, z1, z2, z3] l) (.slice A0 n0 c0))) (results_cell_row (p := 6) (ty := 34) rfl _ _ b6 34 _ (0, 0) _ rfl h7 Tryd.underlying34 rfl info34) rfl ⟨rfl, ?_⟩
    exact (HC3.out.trans HCF.out (fun y hy => .inr (by obtain rfl := List.mem_singleton.1 hy; have := HE.out; omega))).trans hc7 (fun y hy => .inr (by obtain rfl := List.mem_singleton.1 hy; have := HE.out; omega))
  · obtain ⟨z0, z1, z2, rfl⟩ : ∃ z0 z1 z2, L = [z0, z1, z2] := by
      have hn2 : L.length = 3 := hn.trans (by decide)
      clear hn h64 hL
      match L, hn2 with
      | [z0, z1, z2], _ => exact ⟨_, _, _, rfl⟩
    obtain ⟨g, off, cL, rfl, hgl, hcell⟩ := RW_cells hL (by simp)
    have q0 := hcell 0 (by simp)
    have q1 := hcell 1 (by simp)
    have q2 := hcell 2 (by simp)
    simp at q0 q1 q2
    have x0 : IntKind.i64.wrap (z0 : Int) = iw64 z0 := i64_wrap (h64 z0 (by simp))
    have x1 : IntKind.i64.wrap (z1 : Int) = iw64 z1 := i64_wrap (h64 z1 (by simp))
    have x2 : IntKind.i64.wrap (z2 : Int) = iw64 z2 := i64_wrap (h64 z2 (by simp))
    clear hcell hL h64 hn
    go_enter Tryd.func45, Tryd.ntmps45
    go_upto_region 2 with (first | (refine wpList_alloc34 rfl rfl ?_; try simp only [World.size_alloc]; try go_simp) | (refine wpList_store34 (b := w.heap.size + 1) (y := { zCl with k := 4 }) (u := zV) rfl _ _ rfl rfl rfl rfl (by have := Blk.new (w.alloc (.cells (clc zCl zV) 34)) 34 (clc zCl zV); rwa [World.size_alloc] at this) ?_; intro W3 h3 hc3))
    have HC3 := hide (show Chg [] w W3 from (((Chg.refl [] w).alloc _).alloc _).trans hc3 (fun y hy => .inr (by obtain rfl := List.mem_singleton.1 hy; omega)))
    have HB6 := hide (show KB W3 w.heap.size zCl zV from Blk.chg ((Blk.new w 34 _).alloc _) hc3 (by simp only [List.mem_singleton]; omega))
    obtain ⟨b6, e6⟩ : ∃ b, b = w.heap.size := ⟨_, rfl⟩
    obtain ⟨b7, e7⟩ : ∃ b, b = w.heap.size + 1 := ⟨_, rfl⟩
    rw [← e7, ← e6]
    rw [← e7] at h3
    rw [← e6] at HB6
    have HE := hide (And.intro e6 e7)
    have HK := hide h3
    obtain ⟨f0, f1, f2, f3, f4, f5, f6, f7, f8, f9, f10, f11, fl, ff⟩ := KB.cells h3
    have hne : ¬ g = b7 := by omega
    have hne2 : ¬ b7 = g := by omega
    have r0 := Chg.cell HC3.out q0 List.not_mem_nil
    have r1 := Chg.cell HC3.out q1 List.not_mem_nil
    have r2 := Chg.cell HC3.out q2 List.not_mem_nil
    clear q0 q1 q2 hgl
    clear h3 hc3 e6 e7
    have HKF := hide (show KB ((((W3.setCell ⟨b7, 1, none⟩ (.int .i64 (iw64 z0))).setCell ⟨b7, 3, none⟩ (.int .i64 (iw64 z1))).setCell ⟨b7, 4, none⟩ (.int .i64 (iw64 z2))).setCell ⟨b7, 11, none⟩ (.slice A0 n0 c0)) b7 (ofK 4 [z0, z1, z2] l) (.slice A0 n0 c0) from (KB.put (y := ofK 4 [z0, z1, z2] l) (u := .slice A0 n0 c0) ((KB.put (y := { zCl with k := 4, p := iw64 z0, g := iw64 z1, c := iw64 z2 }) (u := zV) ((KB.put (y := { zCl with k := 4, p := iw64 z0, g := iw64 z1 }) (u := zV) ((KB.put (y := { zCl with k := 4, p := iw64 z0 }) (u := zV) (HK.out) 1 (.int .i64 (iw64 z0)) rfl)) 3 (.int .i64 (iw64 z1)) rfl)) 4 (.int .i64 (iw64 z2)) rfl)) 11 (.slice A0 n0 c0) rfl))
    have HCF := hide (show Chg [b7] W3 ((((W3.setCell ⟨b7, 1, none⟩ (.int .i64 (iw64 z0))).setCell ⟨b7, 3, none⟩ (.int .i64 (iw64 z1))).setCell ⟨b7, 4, none⟩ (.int .i64 (iw64 z2))).setCell ⟨b7, 11, none⟩ (.slice A0 n0 c0)) from (((((Chg.refl [b7] W3).setCell (p := ⟨b7, 1, none⟩) (.inl (by simp)) (.int .i64 (iw64 z0))).setCell (p := ⟨b7, 3, none⟩) (.inl (by simp)) (.int .i64 (iw64 z1))).setCell (p := ⟨b7, 4, none⟩) (.inl (by simp)) (.int .i64 (iw64 z2))).setCell (p := ⟨b7, 11, none⟩) (.inl (by simp)) (.slice A0 n0 c0)))
    have HB6F := hide (show KB ((((W3.setCell ⟨b7, 1, none⟩ (.int .i64 (iw64 z0))).setCell ⟨b7, 3, none⟩ (.int .i64 (iw64 z1))).setCell ⟨b7, 4, none⟩ (.int .i64 (iw64 z2))).setCell ⟨b7, 11, none⟩ (.slice A0 n0 c0)) b6 zCl zV from Blk.chg HB6.out HCF.out (by have := HE.out; simp only [List.mem_singleton]; omega))
    go_upto_region 60 with (fail)
    go_wp2_with (first | (refine wpList_load34L (b := b7) (x := ofK 4 [z0, z1, z2] l) (v := .slice A0 n0 c0) rfl _ rfl rfl ?_ ?_; (focus exact HKF.out)) | (refine wpList_store34L (b := b6) (x := zCl) (v := zV) (y := ofK 4 [z0, z1, z2] l) (u := .slice A0 n0 c0) rfl _ _ rfl rfl rfl rfl ?_ ?_; (focus exact HB6F.out); intro W7 h7 hc7))
    refine bodyPost_ret (v := .agg (clc (ofK 4 [z0, z1, z2] l) (.slice A0 n0 c0))) (results_cell_row (p := 6) (ty := 34) rfl _ _ b6 34 _ (0, 0) _ rfl h7 Tryd.underlying34 rfl info34) rfl ⟨rfl, ?_⟩
    exact (HC3.out.trans HCF.out (fun y hy => .inr (by obtain rfl := List.mem_singleton.1 hy; have := HE.out; omega))).trans hc7 (fun y hy => .inr (by obtain rfl := List.mem_singleton.1 hy; have := HE.out; omega))
  · obtain ⟨z0, z1, z2, z3, rfl⟩ : ∃ z0 z1 z2 z3, L = [z0, z1, z2, z3] := by
      have hn2 : L.length = 4 := hn.trans (by decide)
      clear hn h64 hL
      match L, hn2 with
      | [z0, z1, z2, z3], _ => exact ⟨_, _, _, _, rfl⟩
    obtain ⟨g, off, cL, rfl, hgl, hcell⟩ := RW_cells hL (by simp)
    have q0 := hcell 0 (by simp)
    have q1 := hcell 1 (by simp)
    have q2 := hcell 2 (by simp)
    have q3 := hcell 3 (by simp)
    simp at q0 q1 q2 q3
    have x0 : IntKind.i64.wrap (z0 : Int) = iw64 z0 := i64_wrap (h64 z0 (by simp))
    have x1 : IntKind.i64.wrap (z1 : Int) = iw64 z1 := i64_wrap (h64 z1 (by simp))
    have x2 : IntKind.i64.wrap (z2 : Int) = iw64 z2 := i64_wrap (h64 z2 (by simp))
    have x3 := u8_wrap z3
    clear hcell hL h64 hn
    go_enter Tryd.func45, Tryd.ntmps45
    go_upto_region 2 with (first | (refine wpList_alloc34 rfl rfl ?_; try simp only [World.size_alloc]; try go_simp) | (refine wpList_store34 (b := w.heap.size + 1) (y := { zCl with k := 5 }) (u := zV) rfl _ _ rfl rfl rfl rfl (by have := Blk.new (w.alloc (.cells (clc zCl zV) 34)) 34 (clc zCl zV); rwa [World.size_alloc] at this) ?_; intro W3 h3 hc3))
    have HC3 := hide (show Chg [] w W3 from (((Chg.refl [] w).alloc _).alloc _).trans hc3 (fun y hy => .inr (by obtain rfl := List.mem_singleton.1 hy; omega)))
    have HB6 := hide (show KB W3 w.heap.size zCl zV from Blk.chg ((Blk.new w 34 _).alloc _) hc3 (by simp only [List.mem_singleton]; omega))
    obtain ⟨b6, e6⟩ : ∃ b, b = w.heap.size := ⟨_, rfl⟩
    obtain ⟨b7, e7⟩ : ∃ b, b = w.heap.size + 1 := ⟨_, rfl⟩
    rw [← e7, ← e6]
    rw [← e7] at h3
    rw [← e6] at HB6
    have HE := hide (And.intro e6 e7)
    have HK := hide h3
    obtain ⟨f0, f1, f2, f3, f4, f5, f6, f7, f8, f9, f10, f11, fl, ff⟩ := KB.cells h3
    have hne : ¬ g = b7 := by omega
    have hne2 : ¬ b7 = g := by omega
    have r0 := Chg.cell HC3.out q0 List.not_mem_nil
    have r1 := Chg.cell HC3.out q1 List.not_mem_nil
    have r2 := Chg.cell HC3.out q2 List.not_mem_nil
    have r3 := Chg.cell HC3.out q3 List.not_mem_nil
    clear q0 q1 q2 q3 hgl
    clear h3 hc3 e6 e7
    have HKF := hide (show KB (((((W3.setCell ⟨b7, 1, none⟩ (.int .i64 (iw64 z0))).setCell ⟨b7, 3, none⟩ (.int .i64 (iw64 z1))).setCell ⟨b7, 4, none⟩ (.int .i64 (iw64 z2))).setCell ⟨b7, 7, none⟩ (.int .u8 (z3 % 256 : Nat))).setCell ⟨b7, 11, none⟩ (.slice A0 n0 c0)) b7 (ofK 5 [z0, z1, z2, z3] l) (.slice A0 n0 c0) from (KB.put (y := ofK 5 [z0, z1, z2, z3] l) (u := .slice A0 n0 c0) ((KB.put (y := { zCl with k := 5, p := iw64 z0, g := iw64 z1, c := iw64 z2, r := z3 % 256 }) (u := zV) ((KB.put (y := { zCl with k := 5, p := iw64 z0, g := iw64 z1, c := iw64 z2 }) (u := zV) ((KB.put (y := { zCl with k := 5, p := iw64 z0, g := iw64 z1 }) (u := zV) ((KB.put (y := { zCl with k := 5, p := iw64 z0 }) (u := zV) (HK.out) 1 (.int .i64 (iw64 z0)) rfl)) 3 (.int .i64 (iw64 z1)) rfl)) 4 (.int .i64 (iw64 z2)) rfl)) 7 (.int .u8 (z3 % 256 : Nat)) rfl)) 11 (.slice A0 n0 c0) rfl))
    have HCF := hide (show Chg [b7] W3 (((((W3.setCell ⟨b7, 1, none⟩ (.int .i64 (iw64 z0))).setCell ⟨b7, 3, none⟩ (.int .i64 (iw64 z1))).setCell ⟨b7, 4, none⟩ (.int .i64 (iw64 z2))).setCell ⟨b7, 7, none⟩ (.int .u8 (z3 % 256 : Nat))).setCell ⟨b7, 11, none⟩ (.slice A0 n0 c0)) from ((((((Chg.refl [b7] W3).setCell (p := ⟨b7, 1, none⟩) (.inl (by simp)) (.int .i64 (iw64 z0))).setCell (p := ⟨b7, 3, none⟩) (.inl (by simp)) (.int .i64 (iw64 z1))).setCell (p := ⟨b7, 4, none⟩) (.inl (by simp)) (.int .i64 (iw64 z2))).setCell (p := ⟨b7, 7, none⟩) (.inl (by simp)) (.int .u8 (z3 % 256 : Nat))).setCell (p := ⟨b7, 11, none⟩) (.inl (by simp)) (.slice A0 n0 c0)))
    have HB6F := hide (show KB (((((W3.setCell ⟨b7, 1, none⟩ (.int .i64 (iw64 z0))).setCell ⟨b7, 3, none⟩ (.int .i64 (iw64 z1))).setCell ⟨b7, 4, none⟩ (.int .i64 (iw64 z2))).setCell ⟨b7, 7, none⟩ (.int .u8 (z3 % 256 : Nat))).setCell ⟨b7, 11, none⟩ (.slice A0 n0 c0)) b6 zCl zV from Blk.chg HB6.out HCF.out (by have := HE.out; simp only [List.mem_singleton]; omega))
    go_upto_region 60 with (fail)
    go_wp2_with (first | (refine wpList_load34L (b := b7) (x := ofK 5 [z0, z1, z2, z3] l) (v := .slice A0 n0 c0) rfl _ rfl rfl ?_ ?_; (focus exact HKF.out)) | (refine wpList_store34L (b := b6) (x := zCl) (v := zV) (y := ofK 5 [z0, z1, z2, z3] l) (u := .slice A0 n0 c0) rfl _ _ rfl rfl rfl rfl ?_ ?_; (focus exact HB6F.out); intro W7 h7 hc7))
    refine bodyPost_ret (v := .agg (clc (ofK 5 [z0, z1, z2, z3] l) (.slice A0 n0 c0))) (results_cell_row (p := 6) (ty := 34) rfl _ _ b6 34 _ (0, 0) _ rfl h7 Tryd.underlying34 rfl info34) rfl ⟨rfl, ?_⟩
    exact (HC3.out.trans HCF.out (fun y hy => .inr (by obtain rfl := List.mem_singleton.1 hy; have := HE.out; omega))).trans hc7 (fun y hy => .inr (by obtain rfl := List.mem_singleton.1 hy; have := HE.out; omega))
  · obtain ⟨z0, z1, z2, rfl⟩ : ∃ z0 z1 z2, L = [z0, z1, z2] := by
      have hn2 : L.length = 3 := hn.trans (by decide)
      clear hn h64 hL
      match L, hn2 with
      | [z0, z1, z2], _ => exact ⟨_, _, _, rfl⟩
    obtain ⟨g, off, cL, rfl, hgl, hcell⟩ := RW_cells hL (by simp)
    have q0 := hcell 0 (by simp)
    have q1 := hcell 1 (by simp)
    have q2 := hcell 2 (by simp)
    simp at q0 q1 q2
    have x0 : IntKind.i64.wrap (z0 : Int) = iw64 z0 := i64_wrap (h64 z0 (by simp))
    have x1 : IntKind.i64.wrap (z1 : Int) = iw64 z1 := i64_wrap (h64 z1 (by simp))
    have x2 : IntKind.i64.wrap (z2 : Int) = iw64 z2 := i64_wrap (h64 z2 (by simp))
    clear hcell hL h64 hn
    go_enter Tryd.func45, Tryd.ntmps45
    go_upto_region 2 with (first | (refine wpList_alloc34 rfl rfl ?_; try simp only [World.size_alloc]; try go_simp) | (refine wpList_store34 (b := w.heap.size + 1) (y := { zCl with k := 6 }) (u := zV) rfl _ _ rfl rfl rfl rfl (by have := Blk.new (w.alloc (.cells (clc zCl zV) 34)) 34 (clc zCl zV); rwa [World.size_alloc] at this) ?_; intro W3 h3 hc3))
    have HC3 := hide (show Chg [] w W3 from (((Chg.refl [] w).alloc _).alloc _).trans hc3 (fun y hy => .inr (by obtain rfl := List.mem_singleton.1 hy; omega)))
    have HB6 := hide (show KB W3 w.heap.size zCl zV from Blk.chg ((Blk.new w 34 _).alloc _) hc3 (by simp only [List.mem_singleton]; omega))
    obtain ⟨b6, e6⟩ : ∃ b, b = w.heap.size := ⟨_, rfl⟩
    obtain ⟨b7, e7⟩ : ∃ b, b = w.heap.size + 1 := ⟨_, rfl⟩
    rw [← e7, ← e6]
    rw [← e7] at h3
    rw [← e6] at HB6
    have HE := hide (And.intro e6 e7)
    have HK := hide h3
    obtain ⟨f0, f1, f2, f3, f4, f5, f6, f7, f8, f9, f10, f11, fl, ff⟩ := KB.cells h3
    have hne : ¬ g = b7 := by omega
    have hne2 : ¬ b7 = g := by omega
    have r0 := Chg.cell HC3.out q0 List.not_mem_nil
    have r1 := Chg.cell HC3.out q1 List.not_mem_nil
    have r2 := Chg.cell HC3.out q2 List.not_mem_nil
    clear q0 q1 q2 hgl
    clear h3 hc3 e6 e7
    have HKF := hide (show KB ((((W3.setCell ⟨b7, 1, none⟩ (.int .i64 (iw64 z0))).setCell ⟨b7, 3, none⟩ (.int .i64 (iw64 z1))).setCell ⟨b7, 4, none⟩ (.int .i64 (iw64 z2))).setCell ⟨b7, 11, none⟩ (.slice A0 n0 c0)) b7 (ofK 6 [z0, z1, z2] l) (.slice A0 n0 c0) from (KB.put (y := ofK 6 [z0, z1, z2] l) (u := .slice A0 n0 c0) ((KB.put (y := { zCl with k := 6, p := iw64 z0, g := iw64 z1, c := iw64 z2 }) (u := zV) ((KB.put (y := { zCl with k := 6, p := iw64 z0, g := iw64 z1 }) (u := zV) ((KB.put (y := { zCl with k := 6, p := iw64 z0 }) (u := zV) (HK.out) 1 (.int .i64 (iw64 z0)) rfl)) 3 (.int .i64 (iw64 z1)) rfl)) 4 (.int .i64 (iw64 z2)) rfl)) 11 (.slice A0 n0 c0) rfl))
    have HCF := hide (show Chg [b7] W3 ((((W3.setCell ⟨b7, 1, none⟩ (.int .i64 (iw64 z0))).setCell ⟨b7, 3, none⟩ (.int .i64 (iw64 z1))).setCell ⟨b7, 4, none⟩ (.int .i64 (iw64 z2))).setCell ⟨b7, 11, none⟩ (.slice A0 n0 c0)) from (((((Chg.refl [b7] W3).setCell (p := ⟨b7, 1, none⟩) (.inl (by simp)) (.int .i64 (iw64 z0))).setCell (p := ⟨b7, 3, none⟩) (.inl (by simp)) (.int .i64 (iw64 z1))).setCell (p := ⟨b7, 4, none⟩) (.inl (by simp)) (.int .i64 (iw64 z2))).setCell (p := ⟨b7, 11, none⟩) (.inl (by simp)) (.slice A0 n0 c0)))
    have HB6F := hide (show KB ((((W3.setCell ⟨b7, 1, none⟩ (.int .i64 (iw64 z0))).setCell ⟨b7, 3, none⟩ (.int .i64 (iw64 z1))).setCell ⟨b7, 4, none⟩ (.int .i64 (iw64 z2))).setCell ⟨b7, 11, none⟩ (.slice A0 n0 c0)) b6 zCl zV from Blk.chg HB6.out HCF.out (by have := HE.out; simp only [List.mem_singleton]; omega))
    go_upto_region 60 with (fail)
    go_wp2_with (first | (refine wpList_load34L (b := b7) (x := ofK 6 [z0, z1, z2] l) (v := .slice A0 n0 c0) rfl _ rfl rfl ?_ ?_; (focus exact HKF.out)) | (refine wpList_store34L (b := b6) (x := zCl) (v := zV) (y := ofK 6 [z0, z1, z2] l) (u := .slice A0 n0 c0) rfl _ _ rfl rfl rfl rfl ?_ ?_; (focus exact HB6F.out); intro W7 h7 hc7))
    refine bodyPost_ret (v := .agg (clc (ofK 6 [z0, z1, z2] l) (.slice A0 n0 c0))) (results_cell_row (p := 6) (ty := 34) rfl _ _ b6 34 _ (0, 0) _ rfl h7 Tryd.underlying34 rfl info34) rfl ⟨rfl, ?_⟩
    exact (HC3.out.trans HCF.out (fun y hy => .inr (by obtain rfl := List.mem_singleton.1 hy; have := HE.out; omega))).trans hc7 (fun y hy => .inr (by obtain rfl := List.mem_singleton.1 hy; have := HE.out; omega))
  · obtain ⟨z0, z1, z2, rfl⟩ : ∃ z0 z1 z2, L = [z0, z1, z2] := by
      have hn2 : L.length = 3 := hn.trans (by decide)
      clear hn h64 hL
      match L, hn2 with
      | [z0, z1, z2], _ => exact ⟨_, _, _, rfl⟩
    obtain ⟨g, off, cL, rfl, hgl, hcell⟩ := RW_cells hL (by simp)
    have q0 := hcell 0 (by simp)
    have q1 := hcell 1 (by simp)
    have q2 := hcell 2 (by simp)
    simp at q0 q1 q2
    have x0 : IntKind.i64.wrap (z0 : Int) = iw64 z0 := i64_wrap (h64 z0 (by simp))
    have x1 : IntKind.i64.wrap (z1 : Int) = iw64 z1 := i64_wrap (h64 z1 (by simp))
    have x2 : IntKind.i64.wrap (z2 : Int) = iw64 z2 := i64_wrap (h64 z2 (by simp))
    clear hcell hL h64 hn
    go_enter Tryd.func45, Tryd.ntmps45
    go_upto_region 2 with (first | (refine wpList_alloc34 rfl rfl ?_; try simp only [World.size_alloc]; try go_simp) | (refine wpList_store34 (b := w.heap.size + 1) (y := { zCl with k := 7 }) (u := zV) rfl _ _ rfl rfl rfl rfl (by have := Blk.new (w.alloc (.cells (clc zCl zV) 34)) 34 (clc zCl zV); rwa [World.size_alloc] at this) ?_; intro W3 h3 hc3))
    have HC3 := hide (show Chg [] w W3 from (((Chg.refl [] w).alloc _).alloc _).trans hc3 (fun y hy => .inr (by obtain rfl := List.mem_singleton.1 hy; omega)))
    have HB6 := hide (show KB W3 w.heap.size zCl zV from Blk.chg ((Blk.new w 34 _).alloc _) hc3 (by simp only [List.mem_singleton]; omega))
    obtain ⟨b6, e6⟩ : ∃ b, b = w.heap.size := ⟨_, rfl⟩
    obtain ⟨b7, e7⟩ : ∃ b, b = w.heap.size + 1 := ⟨_, rfl⟩
    rw [← e7, ← e6]
    rw [← e7] at h3
    rw [← e6] at HB6
    have HE := hide (And.intro e6 e7)
    have HK := hide h3
    obtain ⟨f0, f1, f2, f3, f4, f5, f6, f7, f8, f9, f10, f11, fl, ff⟩ := KB.cells h3
    have hne : ¬ g = b7 := by omega
    have hne2 : ¬ b7 = g := by omega
    have r0 := Chg.cell HC3.out q0 List.not_mem_nil
    have r1 := Chg.cell HC3.out q1 List.not_mem_nil
    have r2 := Chg.cell HC3.out q2 List.not_mem_nil
    clear q0 q1 q2 hgl
    clear h3 hc3 e6 e7
    have HKF := hide (show KB ((((W3.setCell ⟨b7, 1, none⟩ (.int .i64 (iw64 z0))).setCell ⟨b7, 3, none⟩ (.int .i64 (iw64 z1))).setCell ⟨b7, 4, none⟩ (.int .i64 (iw64 z2))).setCell ⟨b7, 11, none⟩ (.slice A0 n0 c0)) b7 (ofK 7 [z0, z1, z2] l) (.slice A0 n0 c0) from (KB.put (y := ofK 7 [z0, z1, z2] l) (u := .slice A0 n0 c0) ((KB.put (y := { zCl with k := 7, p := iw64 z0, g := iw64 z1, c := iw64 z2 }) (u := zV) ((KB.put (y := { zCl with k := 7, p := iw64 z0, g := iw64 z1 }) (u := zV) ((KB.put (y := { zCl with k := 7, p := iw64 z0 }) (u := zV) (HK.out) 1 (.int .i64 (iw64 z0)) rfl)) 3 (.int .i64 (iw64 z1)) rfl)) 4 (.int .i64 (iw64 z2)) rfl)) 11 (.slice A0 n0 c0) rfl))
    have HCF := hide (show Chg [b7] W3 ((((W3.setCell ⟨b7, 1, none⟩ (.int .i64 (iw64 z0))).setCell ⟨b7, 3, none⟩ (.int .i64 (iw64 z1))).setCell ⟨b7, 4, none⟩ (.int .i64 (iw64 z2))).setCell ⟨b7, 11, none⟩ (.slice A0 n0 c0)) from (((((Chg.refl [b7] W3).setCell (p := ⟨b7, 1, none⟩) (.inl (by simp)) (.int .i64 (iw64 z0))).setCell (p := ⟨b7, 3, none⟩) (.inl (by simp)) (.int .i64 (iw64 z1))).setCell (p := ⟨b7, 4, none⟩) (.inl (by simp)) (.int .i64 (iw64 z2))).setCell (p := ⟨b7, 11, none⟩) (.inl (by simp)) (.slice A0 n0 c0)))
    have HB6F := hide (show KB ((((W3.setCell ⟨b7, 1, none⟩ (.int .i64 (iw64 z0))).setCell ⟨b7, 3, none⟩ (.int .i64 (iw64 z1))).setCell ⟨b7, 4, none⟩ (.int .i64 (iw64 z2))).setCell ⟨b7, 11, none⟩ (.slice A0 n0 c0)) b6 zCl zV from Blk.chg HB6.out HCF.out (by have := HE.out; simp only [List.mem_singleton]; omega))
    go_upto_region 60 with (fail)
    go_wp2_with (first | (refine wpList_load34L (b := b7) (x := ofK 7 [z0, z1, z2] l) (v := .slice A0 n0 c0) rfl _ rfl rfl ?_ ?_; (focus exact HKF.out)) | (refine wpList_store34L (b := b6) (x := zCl) (v := zV) (y := ofK 7 [z0, z1, z2] l) (u := .slice A0 n0 c0) rfl _ _ rfl rfl rfl rfl ?_ ?_; (focus exact HB6F.out); intro W7 h7 hc7))
    refine bodyPost_ret (v := .agg (clc (ofK 7 [z0, z1, z2] l) (.slice A0 n0 c0))) (results_cell_row (p := 6) (ty := 34) rfl _ _ b6 34 _ (0, 0) _ rfl h7 Tryd.underlying34 rfl info34) rfl ⟨rfl, ?_⟩
    exact (HC3.out.trans HCF.out (fun y hy => .inr (by obtain rfl := List.mem_singleton.1 hy; have := HE.out; omega))).trans hc7 (fun y hy => .inr (by obtain rfl := List.mem_singleton.1 hy; have := HE.out; omega))
  · obtain ⟨z0, z1, z2, rfl⟩ : ∃ z0 z1 z2, L = [z0, z1, z2] := by
      have hn2 : L.length = 3 := hn.trans (by decide)
      clear hn h64 hL
      match L, hn2 with
      | [z0, z1, z2], _ => exact ⟨_, _, _, rfl⟩
    obtain ⟨g, off, cL, rfl, hgl, hcell⟩ := RW_cells hL (by simp)
    have q0 := hcell 0 (by simp)
    have q1 := hcell 1 (by simp)
    have q2 := hcell 2 (by simp)
    simp at q0 q1 q2
    have x0 : IntKind.i64.wrap (z0 : Int) = iw64 z0 := i64_wrap (h64 z0 (by simp))
    have x1 : IntKind.i64.wrap (z1 : Int) = iw64 z1 := i64_wrap (h64 z1 (by simp))
    have x2 : IntKind.i64.wrap (z2 : Int) = iw64 z2 := i64_wrap (h64 z2 (by simp))
    clear hcell hL h64 hn
    go_enter Tryd.func45, Tryd.ntmps45
    go_upto_region 2 with (first | (refine wpList_alloc34 rfl rfl ?_; try simp only [World.size_alloc]; try go_simp) | (refine wpList_store34 (b := w.heap.size + 1) (y := { zCl with k := 8 }) (u := zV) rfl _ _ rfl rfl rfl rfl (by have := Blk.new (w.alloc (.cells (clc zCl zV) 34)) 34 (clc zCl zV); rwa [World.size_alloc] at this) ?_; intro W3 h3 hc3))
    have HC3 := hide (show Chg [] w W3 from (((Chg.refl [] w).alloc _).alloc _).trans hc3 (fun y hy => .inr (by obtain rfl := List.mem_singleton.1 hy; omega)))
    have HB6 := hide (show KB W3 w.heap.size zCl zV from Blk.chg ((Blk.new w 34 _).alloc _) hc3 (by simp only [List.mem_singleton]; omega))
    obtain ⟨b6, e6⟩ : ∃ b, b = w.heap.size := ⟨_, rfl⟩
    obtain ⟨b7, e7⟩ : ∃ b, b = w.heap.size + 1 := ⟨_, rfl⟩
    rw [← e7, ← e6]
    rw [← e7] at h3
    rw [← e6] at HB6
    have HE := hide (And.intro e6 e7)
    have HK := hide h3
    obtain ⟨f0, f1, f2, f3, f4, f5, f6, f7, f8, f9, f10, f11, fl, ff⟩ := KB.cells h3
    have hne : ¬ g = b7 := by omega
    have hne2 : ¬ b7 = g := by omega
    have r0 := Chg.cell HC3.out q0 List.not_mem_nil
    have r1 := Chg.cell HC3.out q1 List.not_mem_nil
    have r2 := Chg.cell HC3.out q2 List.not_mem_nil
    clear q0 q1 q2 hgl
    clear h3 hc3 e6 e7
    have HKF := hide (show KB ((((W3.setCell ⟨b7, 1, none⟩ (.int .i64 (iw64 z0))).setCell ⟨b7, 5, none⟩ (.int .i64 (iw64 z1))).setCell ⟨b7, 6, none⟩ (.int .i64 (iw64 z2))).setCell ⟨b7, 11, none⟩ (.slice A0 n0 c0)) b7 (ofK 8 [z0, z1, z2] l) (.slice A0 n0 c0) from (KB.put (y := ofK 8 [z0, z1, z2] l) (u := .slice A0 n0 c0) ((KB.put (y := { zCl with k := 8, p := iw64 z0, a := iw64 z1, s := iw64 z2 }) (u := zV) ((KB.put (y := { zCl with k := 8, p := iw64 z0, a := iw64 z1 }) (u := zV) ((KB.put (y := { zCl with k := 8, p := iw64 z0 }) (u := zV) (HK.out) 1 (.int .i64 (iw64 z0)) rfl)) 5 (.int .i64 (iw64 z1)) rfl)) 6 (.int .i64 (iw64 z2)) rfl)) 11 (.slice A0 n0 c0) rfl))
    have HCF := hide (show Chg [b7] W3 ((((W3.setCell ⟨b7, 1, none⟩ (.int .i64 (iw64 z0))).setCell ⟨b7, 5, none⟩ (.int .i64 (iw64 z1))).setCell ⟨b7, 6, none⟩ (.int .i64 (iw64 z2))).setCell ⟨b7, 11, none⟩ (.slice A0 n0 c0)) from (((((Chg.refl [b7] W3).setCell (p := ⟨b7, 1, none⟩) (.inl (by simp)) (.int .i64 (iw64 z0))).setCell (p := ⟨b7, 5, none⟩) (.inl (by simp)) (.int .i64 (iw64 z1))).setCell (p := ⟨b7, 6, none⟩) (.inl (by simp)) (.int .i64 (iw64 z2))).setCell (p := ⟨b7, 11, none⟩) (.inl (by simp)) (.slice A0 n0 c0)))
    have HB6F := hide (show KB ((((W3.setCell ⟨b7, 1, none⟩ (.int .i64 (iw64 z0))).setCell ⟨b7, 5, none⟩ (.int .i64 (iw64 z1))).setCell ⟨b7, 6, none⟩ (.int .i64 (iw64 z2))).setCell ⟨b7, 11, none⟩ (.slice A0 n0 c0)) b6 zCl zV from Blk.chg HB6.out HCF.out (by have := HE.out; simp only [List.mem_singleton]; omega))
    go_upto_region 60 with (fail)
    go_wp2_with (first | (refine wpList_load34L (b := b7) (x := ofK 8 [z0, z1, z2] l) (v := .slice A0 n0 c0) rfl _ rfl rfl ?_ ?_; (focus exact HKF.out)) | (refine wpList_store34L (b := b6) (x := zCl) (v := zV) (y := ofK 8 [z0, z1, z2] l) (u := .slice A0 n0 c0) rfl _ _ rfl rfl rfl rfl ?_ ?_; (focus exact HB6F.out); intro W7 h7 hc7))
    refine bodyPost_ret (v := .agg (clc (ofK 8 [z0, z1, z2] l) (.slice A0 n0 c0))) (results_cell_row (p := 6) (ty := 34) rfl _ _ b6 34 _ (0, 0) _ rfl h7 Tryd.underlying34 rfl info34) rfl ⟨rfl, ?_⟩
    exact (HC3.out.trans HCF.out (fun y hy => .inr (by obtain rfl := List.mem_singleton.1 hy; have := HE.out; omega))).trans hc7 (fun y hy => .inr (by obtain rfl := List.mem_singleton.1 hy; have := HE.out; omega))
  · obtain ⟨z0, z1, rfl⟩ : ∃ z0 z1, L = [z0, z1] := by
      have hn2 : L.length = 2 := hn.trans (by decide)
      clear hn h64 hL
      match L, hn2 with
      | [z0, z1], _ => exact ⟨_, _, rfl⟩
    obtain ⟨g, off, cL, rfl, hgl, hcell⟩ := RW_cells hL (by simp)
    have q0 := hcell 0 (by simp)
    have q1 := hcell 1 (by simp)
    simp at q0 q1
    have x0 : IntKind.i64.wrap (z0 : Int) = iw64 z0 := i64_wrap (h64 z0 (by simp))
    have x1 : IntKind.i64.wrap (z1 : Int) = iw64 z1 := i64_wrap (h64 z1 (by simp))
    clear hcell hL h64 hn
    go_enter Tryd.func45, Tryd.ntmps45
    go_upto_region 2 with (first | (refine wpList_alloc34 rfl rfl ?_; try simp only [World.size_alloc]; try go_simp) | (refine wpList_store34 (b := w.heap.size + 1) (y := { zCl with k := 9 }) (u := zV) rfl _ _ rfl rfl rfl rfl (by have := Blk.new (w.alloc (.cells (clc zCl zV) 34)) 34 (clc zCl zV); rwa [World.size_alloc] at this) ?_; intro W3 h3 hc3))
    have HC3 := hide (show Chg [] w W3 from (((Chg.refl [] w).alloc _).alloc _).trans hc3 (fun y hy => .inr (by obtain rfl := List.mem_singleton.1 hy; omega)))
    have HB6 := hide (show KB W3 w.heap.size zCl zV from Blk.chg ((Blk.new w 34 _).alloc _) hc3 (by simp only [List.mem_singleton]; omega))
    obtain ⟨b6, e6⟩ : ∃ b, b = w.heap.size := ⟨_, rfl⟩
    obtain ⟨b7, e7⟩ : ∃ b, b = w.heap.size + 1 := ⟨_, rfl⟩
    rw [← e7, ← e6]
    rw [← e7] at h3
    rw [← e6] at HB6
    have HE := hide (And.intro e6 e7)
    have HK := hide h3
    obtain ⟨f0, f1, f2, f3, f4, f5, f6, f7, f8, f9, f10, f11, fl, ff⟩ := KB.cells h3
    have hne : ¬ g = b7 := by omega
    have hne2 : ¬ b7 = g := by omega
    have r0 := Chg.cell HC3.out q0 List.not_mem_nil
    have r1 := Chg.cell HC3.out q1 List.not_mem_nil
    clear q0 q1 hgl
    clear h3 hc3 e6 e7
    have HKF := hide (show KB (((W3.setCell ⟨b7, 1, none⟩ (.int .i64 (iw64 z0))).setCell ⟨b7, 5, none⟩ (.int .i64 (iw64 z1))).setCell ⟨b7, 11, none⟩ (.slice A0 n0 c0)) b7 (ofK 9 [z0, z1] l) (.slice A0 n0 c0) from (KB.put (y := ofK 9 [z0, z1] l) (u := .slice A0 n0 c0) ((KB.put (y := { zCl with k := 9, p := iw64 z0, a := iw64 z1 }) (u := zV) ((KB.put (y := { zCl with k := 9, p := iw64 z0 }) (u := zV) (HK.out) 1 (.int .i64 (iw64 z0)) rfl)) 5 (.int .i64 (iw64 z1)) rfl)) 11 (.slice A0 n0 c0) rfl))
    have HCF := hide (show Chg [b7] W3 (((W3.setCell ⟨b7, 1, none⟩ (.int .i64 (iw64 z0))).setCell ⟨b7, 5, none⟩ (.int .i64 (iw64 z1))).setCell ⟨b7, 11, none⟩ (.slice A0 n0 c0)) from ((((Chg.refl [b7] W3).setCell (p := ⟨b7, 1, none⟩) (.inl (by simp)) (.int .i64 (iw64 z0))).setCell (p := ⟨b7, 5, none⟩) (.inl (by simp)) (.int .i64 (iw64 z1))).setCell (p := ⟨b7, 11, none⟩) (.inl (by simp)) (.slice A0 n0 c0)))
    have HB6F := hide (show KB (((W3.setCell ⟨b7, 1, none⟩ (.int .i64 (iw64 z0))).setCell ⟨b7, 5, none⟩ (.int .i64 (iw64 z1))).setCell ⟨b7, 11, none⟩ (.slice A0 n0 c0)) b6 zCl zV from Blk.chg HB6.out HCF.out (by have := HE.out; simp only [List.mem_singleton]; omega))
    go_upto_region 60 with (fail)
    go_wp2_with (first | (refine wpList_load34L (b := b7) (x := ofK 9 [z0, z1] l) (v := .slice A0 n0 c0) rfl _ rfl rfl ?_ ?_; (focus exact HKF.out)) | (refine wpList_store34L (b := b6) (x := zCl) (v := zV) (y := ofK 9 [z0, z1] l) (u := .slice A0 n0 c0) rfl _ _ rfl rfl rfl rfl ?_ ?_; (focus exact HB6F.out); intro W7 h7 hc7))
    refine bodyPost_ret (v := .agg (clc (ofK 9 [z0, z1] l) (.slice A0 n0 c0))) (results_cell_row (p := 6) (ty := 34) rfl _ _ b6 34 _ (0, 0) _ rfl h7 Tryd.underlying34 rfl info34) rfl ⟨rfl, ?_⟩
    exact (HC3.out.trans HCF.out (fun y hy => .inr (by obtain rfl := List.mem_singleton.1 hy; have := HE.out; omega))).trans hc7 (fun y hy => .inr (by obtain rfl := List.mem_singleton.1 hy; have := HE.out; omega))
  · obtain ⟨z0, rfl⟩ : ∃ z0, L = [z0] := by
      have hn2 : L.length = 1 := hn.trans (by decide)
      clear hn h64 hL
      match L, hn2 with
      | [z0], _ => exact ⟨_, rfl⟩
    obtain ⟨g, off, cL, rfl, hgl, hcell⟩ := RW_cells hL (by simp)
    have q0 := hcell 0 (by simp)
    simp at q0
    have x0 : IntKind.i64.wrap (z0 : Int) = iw64 z0 := i64_wrap (h64 z0 (by simp))
    clear hcell hL h64 hn
    go_enter Tryd.func45, Tryd.ntmps45
    go_upto_region 2 with (first | (refine wpList_alloc34 rfl rfl ?_; try simp only [World.size_alloc]; try go_simp) | (refine wpList_store34 (b := w.heap.size + 1) (y := { zCl with k := 10 }) (u := zV) rfl _ _ rfl rfl rfl rfl (by have := Blk.new (w.alloc (.cells (clc zCl zV) 34)) 34 (clc zCl zV); rwa [World.size_alloc] at this) ?_; intro W3 h3 hc3))
    have HC3 := hide (show Chg [] w W3 from (((Chg.refl [] w).alloc _).alloc _).trans hc3 (fun y hy => .inr (by obtain rfl := List.mem_singleton.1 hy; omega)))
    have HB6 := hide (show KB W3 w.heap.size zCl zV from Blk.chg ((Blk.new w 34 _).alloc _) hc3 (by simp only [List.mem_singleton]; omega))
    obtain ⟨b6, e6⟩ : ∃ b, b = w.heap.size := ⟨_, rfl⟩
    obtain ⟨b7, e7⟩ : ∃ b, b = w.heap.size + 1 := ⟨_, rfl⟩
    rw [← e7, ← e6]
    rw [← e7] at h3
    rw [← e6] at HB6
    have HE := hide (And.intro e6 e7)
    have HK := hide h3
    obtain ⟨f0, f1, f2, f3, f4, f5, f6, f7, f8, f9, f10, f11, fl, ff⟩ := KB.cells h3
    have hne : ¬ g = b7 := by omega
    have hne2 : ¬ b7 = g := by omega
    have r0 := Chg.cell HC3.out q0 List.not_mem_nil
    clear q0 hgl
    clear h3 hc3 e6 e7
    have HKF := hide (show KB ((W3.setCell ⟨b7, 6, none⟩ (.int .i64 (iw64 z0))).setCell ⟨b7, 11, none⟩ (.slice A0 n0 c0)) b7 (ofK 10 [z0] l) (.slice A0 n0 c0) from (KB.put (y := ofK 10 [z0] l) (u := .slice A0 n0 c0) ((KB.put (y := { zCl with k := 10, s := iw64 z0 }) (u := zV) (HK.out) 6 (.int .i64 (iw64 z0)) rfl)) 11 (.slice A0 n0 c0) rfl))
    have HCF := hide (show Chg [b7] W3 ((W3.setCell ⟨b7, 6, none⟩ (.int .i64 (iw64 z0))).setCell ⟨b7, 11, none⟩ (.slice A0 n0 c0)) from (((Chg.refl [b7] W3).setCell (p := ⟨b7, 6, none⟩) (.inl (by simp)) (.int .i64 (iw64 z0))).setCell (p := ⟨b7, 11, none⟩) (.inl (by simp)) (.slice A0 n0 c0)))
    have HB6F := hide (show KB ((W3.setCell ⟨b7, 6, none⟩ (.int .i64 (iw64 z0))).setCell ⟨b7, 11, none⟩ (.slice A0 n0 c0)) b6 zCl zV from Blk.chg HB6.out HCF.out (by have := HE.out; simp only [List.mem_singleton]; omega))
    go_upto_region 60 with (fail)
    go_wp2_with (first | (refine wpList_load34L (b := b7) (x := ofK 10 [z0] l) (v := .slice A0 n0 c0) rfl _ rfl rfl ?_ ?_; (focus exact HKF.out)) | (refine wpList_store34L (b := b6) (x := zCl) (v := zV) (y := ofK 10 [z0] l) (u := .slice A0 n0 c0) rfl _ _ rfl rfl rfl rfl ?_ ?_; (focus exact HB6F.out); intro W7 h7 hc7))
    refine bodyPost_ret (v := .agg (clc (ofK 10 [z0] l) (.slice A0 n0 c0))) (results_cell_row (p := 6) (ty := 34) rfl _ _ b6 34 _ (0, 0) _ rfl h7 Tryd.underlying34 rfl info34) rfl ⟨rfl, ?_⟩
    exact (HC3.out.trans HCF.out (fun y hy => .inr (by obtain rfl := List.mem_singleton.1 hy; have := HE.out; omega))).trans hc7 (fun y hy => .inr (by obtain rfl := List.mem_singleton.1 hy; have := HE.out; omega))
  · obtain ⟨z0, rfl⟩ : ∃ z0, L = [z0] := by
      have hn2 : L.length = 1 := hn.trans (by decide)
      clear hn h64 hL
      match L, hn2 with
      | [z0], _ => exact ⟨_, rfl⟩
    obtain ⟨g, off, cL, rfl, hgl, hcell⟩ := RW_cells hL (by simp)
    have q0 := hcell 0 (by simp)
    simp at q0
    clear hcell hL h64 hn
    go_enter Tryd.func45, Tryd.ntmps45
    go_upto_region 2 with (first | (refine wpList_alloc34 rfl rfl ?_; try simp only [World.size_alloc]; try go_simp) | (refine wpList_store34 (b := w.heap.size + 1) (y := { zCl with k := 11 }) (u := zV) rfl _ _ rfl rfl rfl rfl (by have := Blk.new (w.alloc (.cells (clc zCl zV) 34)) 34 (clc zCl zV); rwa [World.size_alloc] at this) ?_; intro W3 h3 hc3))
    have HC3 := hide (show Chg [] w W3 from (((Chg.refl [] w).alloc _).alloc _).trans hc3 (fun y hy => .inr (by obtain rfl := List.mem_singleton.1 hy; omega)))
    have HB6 := hide (show KB W3 w.heap.size zCl zV from Blk.chg ((Blk.new w 34 _).alloc _) hc3 (by simp only [List.mem_singleton]; omega))
    obtain ⟨b6, e6⟩ : ∃ b, b = w.heap.size := ⟨_, rfl⟩
    obtain ⟨b7, e7⟩ : ∃ b, b = w.heap.size + 1 := ⟨_, rfl⟩
    rw [← e7, ← e6]
    rw [← e7] at h3
    rw [← e6] at HB6
    have HE := hide (And.intro e6 e7)
    have HK := hide h3
    obtain ⟨f0, f1, f2, f3, f4, f5, f6, f7, f8, f9, f10, f11, fl, ff⟩ := KB.cells h3
    have hne : ¬ g = b7 := by omega
    have hne2 : ¬ b7 = g := by omega
    have r0 := Chg.cell HC3.out q0 List.not_mem_nil
    clear q0 hgl
    clear h3 hc3 e6 e7
    have HKF := hide (show KB ((W3.setCell ⟨b7, 10, none⟩ (.int .u64 (z0 : Nat))).setCell ⟨b7, 11, none⟩ (.slice A0 n0 c0)) b7 (ofK 11 [z0] l) (.slice A0 n0 c0) from (KB.put (y := ofK 11 [z0] l) (u := .slice A0 n0 c0) ((KB.put (y := { zCl with k := 11, h := z0 }) (u := zV) (HK.out) 10 (.int .u64 (z0 : Nat)) rfl)) 11 (.slice A0 n0 c0) rfl))
    have HCF := hide (show Chg [b7] W3 ((W3.setCell ⟨b7, 10, none⟩ (.int .u64 (z0 : Nat))).setCell ⟨b7, 11, none⟩ (.slice A0 n0 c0)) from (((Chg.refl [b7] W3).setCell (p := ⟨b7, 10, none⟩) (.inl (by simp)) (.int .u64 (z0 : Nat))).setCell (p := ⟨b7, 11, none⟩) (.inl (by simp)) (.slice A0 n0 c0)))
    have HB6F := hide (show KB ((W3.setCell ⟨b7, 10, none⟩ (.int .u64 (z0 : Nat))).setCell ⟨b7, 11, none⟩ (.slice A0 n0 c0)) b6 zCl zV from Blk.chg HB6.out HCF.out (by have := HE.out; simp only [List.mem_singleton]; omega))
    go_upto_region 60 with (fail)
    go_wp2_with (first | (refine wpList_load34L (b := b7) (x := ofK 11 [z0] l) (v := .slice A0 n0 c0) rfl _ rfl rfl ?_ ?_; (focus exact HKF.out)) | (refine wpList_store34L (b := b6) (x := zCl) (v := zV) (y := ofK 11 [z0] l) (u := .slice A0 n0 c0) rfl _ _ rfl rfl rfl rfl ?_ ?_; (focus exact HB6F.out); intro W7 h7 hc7))
    refine bodyPost_ret (v := .agg (clc (ofK 11 [z0] l) (.slice A0 n0 c0))) (results_cell_row (p := 6) (ty := 34) rfl _ _ b6 34 _ (0, 0) _ rfl h7 Tryd.underlying34 rfl info34) rfl ⟨rfl, ?_⟩
    exact (HC3.out.trans HCF.out (fun y hy => .inr (by obtain rfl := List.mem_singleton.1 hy; have := HE.out; omega))).trans hc7 (fun y hy => .inr (by obtain rfl := List.mem_singleton.1 hy; have := HE.out; omega))
  · obtain ⟨z0, z1, z2, rfl⟩ : ∃ z0 z1 z2, L = [z0, z1, z2] := by
      have hn2 : L.length = 3 := hn.trans (by decide)
      clear hn h64 hL
      match L, hn2 with
      | [z0, z1, z2], _ => exact ⟨_, _, _, rfl⟩
    obtain ⟨g, off, cL, rfl, hgl, hcell⟩ := RW_cells hL (by simp)
    have q0 := hcell 0 (by simp)
    have q1 := hcell 1 (by simp)
    have q2 := hcell 2 (by simp)
    simp at q0 q1 q2
    have x1 : IntKind.i64.wrap (z1 : Int) = iw64 z1 := i64_wrap (h64 z1 (by simp))
    have x2 : IntKind.i64.wrap (z2 : Int) = iw64 z2 := i64_wrap (h64 z2 (by simp))
    clear hcell hL h64 hn
    go_enter Tryd.func45, Tryd.ntmps45
    go_upto_region 2 with (first | (refine wpList_alloc34 rfl rfl ?_; try simp only [World.size_alloc]; try go_simp) | (refine wpList_store34 (b := w.heap.size + 1) (y := { zCl with k := 12 }) (u := zV) rfl _ _ rfl rfl rfl rfl (by have := Blk.new (w.alloc (.cells (clc zCl zV) 34)) 34 (clc zCl zV); rwa [World.size_alloc] at this) ?_; intro W3 h3 hc3))
    have HC3 := hide (show Chg [] w W3 from (((Chg.refl [] w).alloc _).alloc _).trans hc3 (fun y hy => .inr (by obtain rfl := List.mem_singleton.1 hy; omega)))
    have HB6 := hide (show KB W3 w.heap.size zCl zV from Blk.chg ((Blk.new w 34 _).alloc _) hc3 (by simp only [List.mem_singleton]; omega))
    obtain ⟨b6, e6⟩ : ∃ b, b = w.heap.size := ⟨_, rfl⟩
    obtain ⟨b7, e7⟩ : ∃ b, b = w.heap.size + 1 := ⟨_, rfl⟩
    rw [← e7, ← e6]
    rw [← e7] at h3
    rw [← e6] at HB6
    have HE := hide (And.intro e6 e7)
    have HK := hide h3
    obtain ⟨f0, f1, f2, f3, f4, f5, f6, f7, f8, f9, f10, f11, fl, ff⟩ := KB.cells h3
    have hne : ¬ g = b7 := by omega
    have hne2 : ¬ b7 = g := by omega
    have r0 := Chg.cell HC3.out q0 List.not_mem_nil
    have r1 := Chg.cell HC3.out q1 List.not_mem_nil
    have r2 := Chg.cell HC3.out q2 List.not_mem_nil
    clear q0 q1 q2 hgl
    clear h3 hc3 e6 e7
    have HKF := hide (show KB ((((W3.setCell ⟨b7, 10, none⟩ (.int .u64 (z0 : Nat))).setCell ⟨b7, 5, none⟩ (.int .i64 (iw64 z1))).setCell ⟨b7, 6, none⟩ (.int .i64 (iw64 z2))).setCell ⟨b7, 11, none⟩ (.slice A0 n0 c0)) b7 (ofK 12 [z0, z1, z2] l) (.slice A0 n0 c0) from (KB.put (y := ofK 12 [z0, z1, z2] l) (u := .slice A0 n0 c0) ((KB.put (y := { zCl with k := 12, h := z0, a := iw64 z1, s := iw64 z2 }) (u := zV) ((KB.put (y := { zCl with k := 12, h := z0, a := iw64 z1 }) (u := zV) ((KB.put (y := { zCl with k := 12, h := z0 }) (u := zV) (HK.out) 10 (.int .u64 (z0 : Nat)) rfl)) 5 (.int .i64 (iw64 z1)) rfl)) 6 (.int .i64 (iw64 z2)) rfl)) 11 (.slice A0 n0 c0) rfl))
    have HCF := hide (show Chg [b7] W3 ((((W3.setCell ⟨b7, 10, none⟩ (.int .u64 (z0 : Nat))).setCell ⟨b7, 5, none⟩ (.int .i64 (iw64 z1))).setCell ⟨b7, 6, none⟩ (.int .i64 (iw64 z2))).setCell ⟨b7, 11, none⟩ (.slice A0 n0 c0)) from (((((Chg.refl [b7] W3).setCell (p := ⟨b7, 10, none⟩) (.inl (by simp)) (.int .u64 (z0 : Nat))).setCell (p := ⟨b7, 5, none⟩) (.inl (by simp)) (.int .i64 (iw64 z1))).setCell (p := ⟨b7, 6, none⟩) (.inl (by simp)) (.int .i64 (iw64 z2))).setCell (p := ⟨b7, 11, none⟩) (.inl (by simp)) (.slice A0 n0 c0)))
    have HB6F := hide (show KB ((((W3.setCell ⟨b7, 10, none⟩ (.int .u64 (z0 : Nat))).setCell ⟨b7, 5, none⟩ (.int .i64 (iw64 z1))).setCell ⟨b7, 6, none⟩ (.int .i64 (iw64 z2))).setCell ⟨b7, 11, none⟩ (.slice A0 n0 c0)) b6 zCl zV from Blk.chg HB6.out HCF.out (by have := HE.out; simp only [List.mem_singleton]; omega))
    go_upto_region 60 with (fail)
    go_wp2_with (first | (refine wpList_load34L (b := b7) (x := ofK 12 [z0, z1, z2] l) (v := .slice A0 n0 c0) rfl _ rfl rfl ?_ ?_; (focus exact HKF.out)) | (refine wpList_store34L (b := b6) (x := zCl) (v := zV) (y := ofK 12 [z0, z1, z2] l) (u := .slice A0 n0 c0) rfl _ _ rfl rfl rfl rfl ?_ ?_; (focus exact HB6F.out); intro W7 h7 hc7))
    refine bodyPost_ret (v := .agg (clc (ofK 12 [z0, z1, z2] l) (.slice A0 n0 c0))) (results_cell_row (p := 6) (ty := 34) rfl _ _ b6 34 _ (0, 0) _ rfl h7 Tryd.underlying34 rfl info34) rfl ⟨rfl, ?_⟩
    exact (HC3.out.trans HCF.out (fun y hy => .inr (by obtain rfl := List.mem_singleton.1 hy; have := HE.out; omega))).trans hc7 (fun y hy => .inr (by obtain rfl := List.mem_singleton.1 hy; have := HE.out; omega))
  · obtain ⟨z0, z1, rfl⟩ : ∃ z0 z1, L = [z0, z1] := by
      have hn2 : L.length = 2 := hn.trans (by decide)
      clear hn h64 hL
      match L, hn2 with
      | [z0, z1], _ => exact ⟨_, _, rfl⟩
    obtain ⟨g, off, cL, rfl, hgl, hcell⟩ := RW_cells hL (by simp)
    have q0 := hcell 0 (by simp)
    have q1 := hcell 1 (by simp)
    simp at q0 q1
    have x1 : IntKind.i64.wrap (z1 : Int) = iw64 z1 := i64_wrap (h64 z1 (by simp))
    clear hcell hL h64 hn
    go_enter Tryd.func45, Tryd.ntmps45
    go_upto_region 2 with (first | (refine wpList_alloc34 rfl rfl ?_; try simp only [World.size_alloc]; try go_simp) | (refine wpList_store34 (b := w.heap.size + 1) (y := { zCl with k := 13 }) (u := zV) rfl _ _ rfl rfl rfl rfl (by have := Blk.new (w.alloc (.cells (clc zCl zV) 34)) 34 (clc zCl zV); rwa [World.size_alloc] at this) ?_; intro W3 h3 hc3))
    have HC3 := hide (show Chg [] w W3 from (((Chg.refl [] w).alloc _).alloc _).trans hc3 (fun y hy => .inr (by obtain rfl := List.mem_singleton.1 hy; omega)))
    have HB6 := hide (show KB W3 w.heap.size zCl zV from Blk.chg ((Blk.new w 34 _).alloc _) hc3 (by simp only [List.mem_singleton]; omega))
    obtain ⟨b6, e6⟩ : ∃ b, b = w.heap.size := ⟨_, rfl⟩
    obtain ⟨b7, e7⟩ : ∃ b, b = w.heap.size + 1 := ⟨_, rfl⟩
    rw [← e7, ← e6]
    rw [← e7] at h3
    rw [← e6] at HB6
    have HE := hide (And.intro e6 e7)
    have HK := hide h3
    obtain ⟨f0, f1, f2, f3, f4, f5, f6, f7, f8, f9, f10, f11, fl, ff⟩ := KB.cells h3
    have hne : ¬ g = b7 := by omega
    have hne2 : ¬ b7 = g := by omega
    have r0 := Chg.cell HC3.out q0 List.not_mem_nil
    have r1 := Chg.cell HC3.out q1 List.not_mem_nil
    clear q0 q1 hgl
    clear h3 hc3 e6 e7
    have HKF := hide (show KB (((W3.setCell ⟨b7, 10, none⟩ (.int .u64 (z0 : Nat))).setCell ⟨b7, 5, none⟩ (.int .i64 (iw64 z1))).setCell ⟨b7, 11, none⟩ (.slice A0 n0 c0)) b7 (ofK 13 [z0, z1] l) (.slice A0 n0 c0) from (KB.put (y := ofK 13 [z0, z1] l) (u := .slice A0 n0 c0) ((KB.put (y := { zCl with k := 13, h := z0, a := iw64 z1 }) (u := zV) ((KB.put (y := { zCl with k := 13, h := z0 }) (u := zV) (HK.out) 10 (.int .u64 (z0 : Nat)) rfl)) 5 (.int .i64 (iw64 z1)) rfl)) 11 (.slice A0 n0 c0) rfl))
    have HCF := hide (show Chg [b7] W3 (((W3.setCell ⟨b7, 10, none⟩ (.int .u64 (z0 : Nat))).setCell ⟨b7, 5, none⟩ (.int .i64 (iw64 z1))).setCell ⟨b7, 11, none⟩ (.slice A0 n0 c0)) from ((((Chg.refl [b7] W3).setCell (p := ⟨b7, 10, none⟩) (.inl (by simp)) (.int .u64 (z0 : Nat))).setCell (p := ⟨b7, 5, none⟩) (.inl (by simp)) (.int .i64 (iw64 z1))).setCell (p := ⟨b7, 11, none⟩) (.inl (by simp)) (.slice A0 n0 c0)))
    have HB6F := hide (show KB (((W3.setCell ⟨b7, 10, none⟩ (.int .u64 (z0 : Nat))).setCell ⟨b7, 5, none⟩ (.int .i64 (iw64 z1))).setCell ⟨b7, 11, none⟩ (.slice A0 n0 c0)) b6 zCl zV from Blk.chg HB6.out HCF.out (by have := HE.out; simp only [List.mem_singleton]; omega))
    go_upto_region 60 with (fail)
    go_wp2_with (first | (refine wpList_load34L (b := b7) (x := ofK 13 [z0, z1] l) (v := .slice A0 n0 c0) rfl _ rfl rfl ?_ ?_; (focus exact HKF.out)) | (refine wpList_store34L (b := b6) (x := zCl) (v := zV) (y := ofK 13 [z0, z1] l) (u := .slice A0 n0 c0) rfl _ _ rfl rfl rfl rfl ?_ ?_; (focus exact HB6F.out); intro W7 h7 hc7))
    refine bodyPost_ret (v := .agg (clc (ofK 13 [z0, z1] l) (.slice A0 n0 c0))) (results_cell_row (p := 6) (ty := 34) rfl _ _ b6 34 _ (0, 0) _ rfl h7 Tryd.underlying34 rfl info34) rfl ⟨rfl, ?_⟩
    exact (HC3.out.trans HCF.out (fun y hy => .inr (by obtain rfl := List.mem_singleton.1 hy; have := HE.out; omega))).trans hc7 (fun y hy => .inr (by obtain rfl := List.mem_singleton.1 hy; have := HE.out; omega))
  · obtain ⟨z0, z1, z2, rfl⟩ : ∃ z0 z1 z2, L = [z0, z1, z2] := by
      have hn2 : L.length = 3 := hn.trans (by decide)
      clear hn h64 hL
      match L, hn2 with
      | [z0, z1, z2], _ => exact ⟨_, _, _, rfl⟩
    obtain ⟨g, off, cL, rfl, hgl, hcell⟩ := RW_cells hL (by simp)
    have q0 := hcell 0 (by simp)
    have q1 := hcell 1 (by simp)
    have q2 := hcell 2 (by simp)
    simp at q0 q1 q2
    have x0 : IntKind.i64.wrap (z0 : Int) = iw64 z0 := i64_wrap (h64 z0 (by simp))
    have x1 := u8_wrap z1
    have x2 := u8_wrap z2
    clear hcell hL h64 hn
    go_enter Tryd.func45, Tryd.ntmps45
    go_upto_region 2 with (first | (refine wpList_alloc34 rfl rfl ?_; try simp only [World.size_alloc]; try go_simp) | (refine wpList_store34 (b := w.heap.size + 1) (y := { zCl with k := 14 }) (u := zV) rfl _ _ rfl rfl rfl rfl (by have := Blk.new (w.alloc (.cells (clc zCl zV) 34)) 34 (clc zCl zV); rwa [World.size_alloc] at this) ?_; intro W3 h3 hc3))
    have HC3 := hide (show Chg [] w W3 from (((Chg.refl [] w).alloc _).alloc _).trans hc3 (fun y hy => .inr (by obtain rfl := List.mem_singleton.1 hy; omega)))
    have HB6 := hide (show KB W3 w.heap.size zCl zV from Blk.chg ((Blk.new w 34 _).alloc _) hc3 (by simp only [List.mem_singleton]; omega))
    obtain ⟨b6, e6⟩ : ∃ b, b = w.heap.size := ⟨_, rfl⟩
    obtain ⟨b7, e7⟩ : ∃ b, b = w.heap.size + 1 := ⟨_, rfl⟩
    rw [← e7, ← e6]
    rw [← e7] at h3
    rw [← e6] at HB6
    have HE := hide (And.intro e6 e7)
    have HK := hide h3
    obtain ⟨f0, f1, f2, f3, f4, f5, f6, f7, f8, f9, f10, f11, fl, ff⟩ := KB.cells h3
    have hne : ¬ g = b7 := by omega
    have hne2 : ¬ b7 = g := by omega
    have r0 := Chg.cell HC3.out q0 List.not_mem_nil
    have r1 := Chg.cell HC3.out q1 List.not_mem_nil
    have r2 := Chg.cell HC3.out q2 List.not_mem_nil
    clear q0 q1 q2 hgl
    clear h3 hc3 e6 e7
    go_upto_region 54 with (fail)
    have HK5 := hide (show KB (W3.setCell ⟨b7, 1, none⟩ (.int .i64 (iw64 z0))) b7 ({ zCl with k := 14, p := iw64 z0 }) zV from (KB.put (y := { zCl with k := 14, p := iw64 z0 }) (u := zV) (HK.out) 1 (.int .i64 (iw64 z0)) rfl))
    have hc5 : Chg [b7] W3 (W3.setCell ⟨b7, 1, none⟩ (.int .i64 (iw64 z0))) := ((Chg.refl [b7] W3).setCell (p := ⟨b7, 1, none⟩) (.inl (by simp)) (.int .i64 (iw64 z0)))
    have hs5 := Chg.size hc5
    have p0 := Chg.cell hc5 r0 (by simp only [List.mem_singleton]; omega)
    have p1 := Chg.cell hc5 r1 (by simp only [List.mem_singleton]; omega)
    have p2 := Chg.cell hc5 r2 (by simp only [List.mem_singleton]; omega)
    have HC35 := hide hc5
    clear r0 r1 r2 f0 f1 f2 f3 f4 f5 f6 f7 f8 f9 f10 f11 ff hc5
    have hl5 : b7 < (W3.setCell ⟨b7, 1, none⟩ (.int .i64 (iw64 z0))).heap.size := by omega
    clear fl hs5
    generalize (W3.setCell ⟨b7, 1, none⟩ (.int .i64 (iw64 z0))) = W5 at *
    obtain ⟨f0, f1, f2, f3, f4, f5, f6, f7, f8, f9, f10, f11, -, ff⟩ := KB.cells HK5.out
    have HK6 := hide (show KB ((W5.drew.setCell ⟨b7, 8, none⟩ (.int .u8 (z1 % 256 : Nat))).setCell ⟨b7, 9, none⟩ (.int .u8 (z2 % 256 : Nat))) b7 ({ zCl with k := 14, p := iw64 z0, ok := z1 % 256, om := z2 % 256 }) zV from (KB.put (y := { zCl with k := 14, p := iw64 z0, ok := z1 % 256, om := z2 % 256 }) (u := zV) ((KB.put (y := { zCl with k := 14, p := iw64 z0, ok := z1 % 256 }) (u := zV) ((Blk.drew HK5.out)) 8 (.int .u8 (z1 % 256 : Nat)) rfl)) 9 (.int .u8 (z2 % 256 : Nat)) rfl))
    have HC56 := hide (show Chg [b7] W5 ((W5.drew.setCell ⟨b7, 8, none⟩ (.int .u8 (z1 % 256 : Nat))).setCell ⟨b7, 9, none⟩ (.int .u8 (z2 % 256 : Nat))) from (((Chg.refl [b7] W5).drew.setCell (p := ⟨b7, 8, none⟩) (.inl (by simp)) (.int .u8 (z1 % 256 : Nat))).setCell (p := ⟨b7, 9, none⟩) (.inl (by simp)) (.int .u8 (z2 % 256 : Nat))))
    refine wp_region_t [0,0,1,0,0,0,1,0,0,0,6] [none, none, none, none, none, none, none, none, none, none, none] (fun _ => True) (by kernel_rfl) (by kernel_rfl) (by kernel_rfl) ?_
    go_wp2_with (first | fail | (refine wpG_calc rfl (fun K hK => ?_)) | (refine wpG_skip ?_ ?_; (focus (simp [wantG]; done)); go_simp) | (refine wpG_take ?_ ?_; (focus (simp [wantG]; done))) | (refine wpG_pure (fun K hK => ?_); go_simp; refine hK _ _ ?_; clear hK K) | (refine wpG_deed (by decide) (fun K hK => ?_); go_simp) | (refine wpG_nil ?_))
    (refine wpG_keeps trivial (fun K hK => ?_))
    refine wp_store30 (b := b7) (x := { zCl with k := 14, p := iw64 z0 }) (v := zV) (p := ((z1 % 256 : Nat) : Int)) (m := ((z2 % 256 : Nat) : Int)) _ _ rfl rfl rfl (Blk.drew HK5.out) ?_
    refine hK _ _ trivial ?_
    clear hK K
    clear p0 p1 p2 f0 f1 f2 f3 f4 f5 f6 f7 f8 f9 f10 f11 ff hl5
    have HC36 := hide (show Chg [b7] W3 ((W5.drew.setCell ⟨b7, 8, none⟩ (.int .u8 (z1 % 256 : Nat))).setCell ⟨b7, 9, none⟩ (.int .u8 (z2 % 256 : Nat))) from HC35.out.and_ HC56.out)
    clear HC56 HC35 HK5
    generalize ((W5.drew.setCell ⟨b7, 8, none⟩ (.int .u8 (z1 % 256 : Nat))).setCell ⟨b7, 9, none⟩ (.int .u8 (z2 % 256 : Nat))) = W6 at *
    clear W5
    obtain ⟨f0, f1, f2, f3, f4, f5, f6, f7, f8, f9, f10, f11, hl6, ff⟩ := KB.cells HK6.out
    have HKF := hide (show KB (W6.setCell ⟨b7, 11, none⟩ (.slice A0 n0 c0)) b7 (ofK 14 [z0, z1, z2] l) (.slice A0 n0 c0) from (KB.put (y := ofK 14 [z0, z1, z2] l) (u := .slice A0 n0 c0) (HK6.out) 11 (.slice A0 n0 c0) rfl))
    have HCF := hide (show Chg [b7] W3 (W6.setCell ⟨b7, 11, none⟩ (.slice A0 n0 c0)) from (HC36.out.setCell (p := ⟨b7, 11, none⟩) (.inl (by simp)) (.slice A0 n0 c0)))
    have HB6F := hide (show KB (W6.setCell ⟨b7, 11, none⟩ (.slice A0 n0 c0)) b6 zCl zV from Blk.chg HB6.out HCF.out (by have := HE.out; simp only [List.mem_singleton]; omega))
    go_wp2_with (first | (refine wpList_load34L (b := b7) (x := ofK 14 [z0, z1, z2] l) (v := .slice A0 n0 c0) rfl _ rfl rfl ?_ ?_; (focus exact HKF.out)) | (refine wpList_store34L (b := b6) (x := zCl) (v := zV) (y := ofK 14 [z0, z1, z2] l) (u := .slice A0 n0 c0) rfl _ _ rfl rfl rfl rfl ?_ ?_; (focus exact HB6F.out); intro W7 h7 hc7) | (refine wpG_calc rfl (fun K hK => ?_)) | (refine wpG_skip ?_ ?_; (focus (simp [wantG]; done)); go_simp) | (refine wpG_take ?_ ?_; (focus (simp [wantG]; done))) | (refine wpG_pure (fun K hK => ?_); go_simp; refine hK _ _ ?_; clear hK K) | (refine wpG_deed (by decide) (fun K hK => ?_); go_simp) | (refine wpG_nil ?_))
    refine bodyPost_ret (v := .agg (clc (ofK 14 [z0, z1, z2] l) (.slice A0 n0 c0))) (results_cell_row (p := 6) (ty := 34) rfl _ _ b6 34 _ (0, 0) _ rfl h7 Tryd.underlying34 rfl info34) rfl ⟨rfl, ?_⟩
    exact (HC3.out.trans HCF.out (fun y hy => .inr (by obtain rfl := List.mem_singleton.1 hy; have := HE.out; omega))).trans hc7 (fun y hy => .inr (by obtain rfl := List.mem_singleton.1 hy; have := HE.out; omega))
  · obtain ⟨z0, z1, z2, z3, z4, rfl⟩ : ∃ z0 z1 z2 z3 z4, L = [z0, z1, z2, z3, z4] := by
      have hn2 : L.length = 5 := hn.trans (by decide)
      clear hn h64 hL
      match L, hn2 with
      | [z0, z1, z2, z3, z4], _ => exact ⟨_, _, _, _, _, rfl⟩
    obtain ⟨g, off, cL, rfl, hgl, hcell⟩ := RW_cells hL (by simp)
    have q0 := hcell 0 (by simp)
    have q1 := hcell 1 (by simp)
    have q2 := hcell 2 (by simp)
    have q3 := hcell 3 (by simp)
    have q4 := hcell 4 (by simp)
    simp at q0 q1 q2 q3 q4
    have x0 : IntKind.i64.wrap (z0 : Int) = iw64 z0 := i64_wrap (h64 z0 (by simp))
    have x1 : IntKind.i64.wrap (z1 : Int) = iw64 z1 := i64_wrap (h64 z1 (by simp))
    have x2 : IntKind.i64.wrap (z2 : Int) = iw64 z2 := i64_wrap (h64 z2 (by simp))
    have x3 := u8_wrap z3
    have x4 := u8_wrap z4
    clear hcell hL h64 hn
    go_enter Tryd.func45, Tryd.ntmps45
    go_upto_region 2 with (first | (refine wpList_alloc34 rfl rfl ?_; try simp only [World.size_alloc]; try go_simp) | (refine wpList_store34 (b := w.heap.size + 1) (y := { zCl with k := 15 }) (u := zV) rfl _ _ rfl rfl rfl rfl (by have := Blk.new (w.alloc (.cells (clc zCl zV) 34)) 34 (clc zCl zV); rwa [World.size_alloc] at this) ?_; intro W3 h3 hc3))
    have HC3 := hide (show Chg [] w W3 from (((Chg.refl [] w).alloc _).alloc _).trans hc3 (fun y hy => .inr (by obtain rfl := List.mem_singleton.1 hy; omega)))
    have HB6 := hide (show KB W3 w.heap.size zCl zV from Blk.chg ((Blk.new w 34 _).alloc _) hc3 (by simp only [List.mem_singleton]; omega))
    obtain ⟨b6, e6⟩ : ∃ b, b = w.heap.size := ⟨_, rfl⟩
    obtain ⟨b7, e7⟩ : ∃ b, b = w.heap.size + 1 := ⟨_, rfl⟩
    rw [← e7, ← e6]
    rw [← e7] at h3
    rw [← e6] at HB6
    have HE := hide (And.intro e6 e7)
    have HK := hide h3
    obtain ⟨f0, f1, f2, f3, f4, f5, f6, f7, f8, f9, f10, f11, fl, ff⟩ := KB.cells h3
    have hne : ¬ g = b7 := by omega
    have hne2 : ¬ b7 = g := by omega
    have r0 := Chg.cell HC3.out q0 List.not_mem_nil
    have r1 := Chg.cell HC3.out q1 List.not_mem_nil
    have r2 := Chg.cell HC3.out q2 List.not_mem_nil
    have r3 := Chg.cell HC3.out q3 List.not_mem_nil
    have r4 := Chg.cell HC3.out q4 List.not_mem_nil
    clear q0 q1 q2 q3 q4 hgl
    clear h3 hc3 e6 e7
    go_upto_region 56 with (fail)
    have HK5 := hide (show KB (((W3.setCell ⟨b7, 1, none⟩ (.int .i64 (iw64 z0))).setCell ⟨b7, 3, none⟩ (.int .i64 (iw64 z1))).setCell ⟨b7, 4, none⟩ (.int .i64 (iw64 z2))) b7 ({ zCl with k := 15, p := iw64 z0, g := iw64 z1, c := iw64 z2 }) zV from (KB.put (y := { zCl with k := 15, p := iw64 z0, g := iw64 z1, c := iw64 z2 }) (u := zV) ((KB.put (y := { zCl with k := 15, p := iw64 z0, g := iw64 z1 }) (u := zV) ((KB.put (y := { zCl with k := 15, p := iw64 z0 }) (u := zV) (HK.out) 1 (.int .i64 (iw64 z0)) rfl)) 3 (.int .i64 (iw64 z1)) rfl)) 4 (.int .i64 (iw64 z2)) rfl))
    have hc5 : Chg [b7] W3 (((W3.setCell ⟨b7, 1, none⟩ (.int .i64 (iw64 z0))).setCell ⟨b7, 3, none⟩ (.int .i64 (iw64 z1))).setCell ⟨b7, 4, none⟩ (.int .i64 (iw64 z2))) := ((((Chg.refl [b7] W3).setCell (p := ⟨b7, 1, none⟩) (.inl (by simp)) (.int .i64 (iw64 z0))).setCell (p := ⟨b7, 3, none⟩) (.inl (by simp)) (.int .i64 (iw64 z1))).setCell (p := ⟨b7, 4, none⟩) (.inl (by simp)) (.int .i64 (iw64 z2)))
    have hs5 := Chg.size hc5
    have p0 := Chg.cell hc5 r0 (by simp only [List.mem_singleton]; omega)
    have p1 := Chg.cell hc5 r1 (by simp only [List.mem_singleton]; omega)
    have p2 := Chg.cell hc5 r2 (by simp only [List.mem_singleton]; omega)
    have p3 := Chg.cell hc5 r3 (by simp only [List.mem_singleton]; omega)
    have p4 := Chg.cell hc5 r4 (by simp only [List.mem_singleton]; omega)
    have HC35 := hide hc5
    clear r0 r1 r2 r3 r4 f0 f1 f2 f3 f4 f5 f6 f7 f8 f9 f10 f11 ff hc5
    have hl5 : b7 < (((W3.setCell ⟨b7, 1, none⟩ (.int .i64 (iw64 z0))).setCell ⟨b7, 3, none⟩ (.int .i64 (iw64 z1))).setCell ⟨b7, 4, none⟩ (.int .i64 (iw64 z2))).heap.size := by omega
    clear fl hs5
    generalize (((W3.setCell ⟨b7, 1, none⟩ (.int .i64 (iw64 z0))).setCell ⟨b7, 3, none⟩ (.int .i64 (iw64 z1))).setCell ⟨b7, 4, none⟩ (.int .i64 (iw64 z2))) = W5 at *
    obtain ⟨f0, f1, f2, f3, f4, f5, f6, f7, f8, f9, f10, f11, -, ff⟩ := KB.cells HK5.out
    have HK6 := hide (show KB ((W5.drew.setCell ⟨b7, 8, none⟩ (.int .u8 (z3 % 256 : Nat))).setCell ⟨b7, 9, none⟩ (.int .u8 (z4 % 256 : Nat))) b7 ({ zCl with k := 15, p := iw64 z0, g := iw64 z1, c := iw64 z2, ok := z3 % 256, om := z4 % 256 }) zV from (KB.put (y := { zCl with k := 15, p := iw64 z0, g := iw64 z1, c := iw64 z2, ok := z3 % 256, om := z4 % 256 }) (u := zV) ((KB.put (y := { zCl with k := 15, p := iw64 z0, g := iw64 z1, c := iw64 z2, ok := z3 % 256 }) (u := zV) ((Blk.drew HK5.out)) 8 (.int .u8 (z3 % 256 : Nat)) rfl)) 9 (.int .u8 (z4 % 256 : Nat)) rfl))
    have HC56 := hide (show Chg [b7] W5 ((W5.drew.setCell ⟨b7, 8, none⟩ (.int .u8 (z3 % 256 : Nat))).setCell ⟨b7, 9, none⟩ (.int .u8 (z4 % 256 : Nat))) from (((Chg.refl [b7] W5).drew.setCell (p := ⟨b7, 8, none⟩) (.inl (by simp)) (.int .u8 (z3 % 256 : Nat))).setCell (p := ⟨b7, 9, none⟩) (.inl (by simp)) (.int .u8 (z4 % 256 : Nat))))
    refine wp_region_t [0,0,1,0,0,0,1,0,0,0,6] [none, none, none, none, none, none, none, none, none, none, none] (fun _ => True) (by kernel_rfl) (by kernel_rfl) (by kernel_rfl) ?_
    as_aux_lemma =>
      go_wp2_with (first | fail | (refine wpG_calc rfl (fun K hK => ?_)) | (refine wpG_skip ?_ ?_; (focus (simp [wantG]; done)); go_simp) | (refine wpG_take ?_ ?_; (focus (simp [wantG]; done))) | (refine wpG_pure (fun K hK => ?_); go_simp; refine hK _ _ ?_; clear hK K) | (refine wpG_deed (by decide) (fun K hK => ?_); go_simp) | (refine wpG_nil ?_))
      (refine wpG_keeps trivial (fun K hK => ?_))
      refine wp_store30 (b := b7) (x := { zCl with k := 15, p := iw64 z0, g := iw64 z1, c := iw64 z2 }) (v := zV) (p := ((z3 % 256 : Nat) : Int)) (m := ((z4 % 256 : Nat) : Int)) _ _ rfl rfl rfl (Blk.drew HK5.out) ?_
      refine hK _ _ trivial ?_
      clear hK K
      clear p0 p1 p2 p3 p4 f0 f1 f2 f3 f4 f5 f6 f7 f8 f9 f10 f11 ff hl5
      have HC36 := hide (show Chg [b7] W3 ((W5.drew.setCell ⟨b7, 8, none⟩ (.int .u8 (z3 % 256 : Nat))).setCell ⟨b7, 9, none⟩ (.int .u8 (z4 % 256 : Nat))) from HC35.out.and_ HC56.out)
      clear HC56 HC35 HK5
      generalize ((W5.drew.setCell ⟨b7, 8, none⟩ (.int .u8 (z3 % 256 : Nat))).setCell ⟨b7, 9, none⟩ (.int .u8 (z4 % 256 : Nat))) = W6 at *
      clear W5
      obtain ⟨f0, f1, f2, f3, f4, f5, f6, f7, f8, f9, f10, f11, hl6, ff⟩ := KB.cells HK6.out
      have HKF := hide (show KB (W6.setCell ⟨b7, 11, none⟩ (.slice A0 n0 c0)) b7 (ofK 15 [z0, z1, z2, z3, z4] l) (.slice A0 n0 c0) from (KB.put (y := ofK 15 [z0, z1, z2, z3, z4] l) (u := .slice A0 n0 c0) (HK6.out) 11 (.slice A0 n0 c0) rfl))
      have HCF := hide (show Chg [b7] W3 (W6.setCell ⟨b7, 11, none⟩ (.slice A0 n0 c0)) from (HC36.out.setCell (p := ⟨b7, 11, none⟩) (.inl (by simp)) (.slice A0 n0 c0)))
      have HB6F := hide (show KB (W6.setCell ⟨b7, 11, none⟩ (.slice A0 n0 c0)) b6 zCl zV from Blk.chg HB6.out HCF.out (by have := HE.out; simp only [List.mem_singleton]; omega))
      go_wp2_with (first | (refine wpList_load34L (b := b7) (x := ofK 15 [z0, z1, z2, z3, z4] l) (v := .slice A0 n0 c0) rfl _ rfl rfl ?_ ?_; (focus exact HKF.out)) | (refine wpList_store34L (b := b6) (x := zCl) (v := zV) (y := ofK 15 [z0, z1, z2, z3, z4] l) (u := .slice A0 n0 c0) rfl _ _ rfl rfl rfl rfl ?_ ?_; (focus exact HB6F.out); intro W7 h7 hc7) | (refine wpG_calc rfl (fun K hK => ?_)) | (refine wpG_skip ?_ ?_; (focus (simp [wantG]; done)); go_simp) | (refine wpG_take ?_ ?_; (focus (simp [wantG]; done))) | (refine wpG_pure (fun K hK => ?_); go_simp; refine hK _ _ ?_; clear hK K) | (refine wpG_deed (by decide) (fun K hK => ?_); go_simp) | (refine wpG_nil ?_))
      refine bodyPost_ret (v := .agg (clc (ofK 15 [z0, z1, z2, z3, z4] l) (.slice A0 n0 c0))) (results_cell_row (p := 6) (ty := 34) rfl _ _ b6 34 _ (0, 0) _ rfl h7 Tryd.underlying34 rfl info34) rfl ⟨rfl, ?_⟩
      exact (HC3.out.trans HCF.out (fun y hy => .inr (by obtain rfl := List.mem_singleton.1 hy; have := HE.out; omega))).trans hc7 (fun y hy => .inr (by obtain rfl := List.mem_singleton.1 hy; have := HE.out; omega))
  · obtain ⟨z0, z1, rfl⟩ : ∃ z0 z1, L = [z0, z1] := by
      have hn2 : L.length = 2 := hn.trans (by decide)
      clear hn h64 hL
      match L, hn2 with
      | [z0, z1], _ => exact ⟨_, _, rfl⟩
    obtain ⟨g, off, cL, rfl, hgl, hcell⟩ := RW_cells hL (by simp)
    have q0 := hcell 0 (by simp)
    have q1 := hcell 1 (by simp)
    simp at q0 q1
    have x0 : IntKind.i64.wrap (z0 : Int) = iw64 z0 := i64_wrap (h64 z0 (by simp))
    have x1 : IntKind.i64.wrap (z1 : Int) = iw64 z1 := i64_wrap (h64 z1 (by simp))
    clear hcell hL h64 hn
    go_enter Tryd.func45, Tryd.ntmps45
    go_upto_region 2 with (first | (refine wpList_alloc34 rfl rfl ?_; try simp only [World.size_alloc]; try go_simp) | (refine wpList_store34 (b := w.heap.size + 1) (y := { zCl with k := 16 }) (u := zV) rfl _ _ rfl rfl rfl rfl (by have := Blk.new (w.alloc (.cells (clc zCl zV) 34)) 34 (clc zCl zV); rwa [World.size_alloc] at this) ?_; intro W3 h3 hc3))
    have HC3 := hide (show Chg [] w W3 from (((Chg.refl [] w).alloc _).alloc _).trans hc3 (fun y hy => .inr (by obtain rfl := List.mem_singleton.1 hy; omega)))
    have HB6 := hide (show KB W3 w.heap.size zCl zV from Blk.chg ((Blk.new w 34 _).alloc _) hc3 (by simp only [List.mem_singleton]; omega))
    obtain ⟨b6, e6⟩ : ∃ b, b = w.heap.size := ⟨_, rfl⟩
    obtain ⟨b7, e7⟩ : ∃ b, b = w.heap.size + 1 := ⟨_, rfl⟩
    rw [← e7, ← e6]
    rw [← e7] at h3
    rw [← e6] at HB6
    have HE := hide (And.intro e6 e7)
    have HK := hide h3
    obtain ⟨f0, f1, f2, f3, f4, f5, f6, f7, f8, f9, f10, f11, fl, ff⟩ := KB.cells h3
    have hne : ¬ g = b7 := by omega
    have hne2 : ¬ b7 = g := by omega
    have r0 := Chg.cell HC3.out q0 List.not_mem_nil
    have r1 := Chg.cell HC3.out q1 List.not_mem_nil
    clear q0 q1 hgl
    clear h3 hc3 e6 e7
    have HKF := hide (show KB (((W3.setCell ⟨b7, 1, none⟩ (.int .i64 (iw64 z0))).setCell ⟨b7, 3, none⟩ (.int .i64 (iw64 z1))).setCell ⟨b7, 11, none⟩ (.slice A0 n0 c0)) b7 (ofK 16 [z0, z1] l) (.slice A0 n0 c0) from (KB.put (y := ofK 16 [z0, z1] l) (u := .slice A0 n0 c0) ((KB.put (y := { zCl with k := 16, p := iw64 z0, g := iw64 z1 }) (u := zV) ((KB.put (y := { zCl with k := 16, p := iw64 z0 }) (u := zV) (HK.out) 1 (.int .i64 (iw64 z0)) rfl)) 3 (.int .i64 (iw64 z1)) rfl)) 11 (.slice A0 n0 c0) rfl))
    have HCF := hide (show Chg [b7] W3 (((W3.setCell ⟨b7, 1, none⟩ (.int .i64 (iw64 z0))).setCell ⟨b7, 3, none⟩ (.int .i64 (iw64 z1))).setCell ⟨b7, 11, none⟩ (.slice A0 n0 c0)) from ((((Chg.refl [b7] W3).setCell (p := ⟨b7, 1, none⟩) (.inl (by simp)) (.int .i64 (iw64 z0))).setCell (p := ⟨b7, 3, none⟩) (.inl (by simp)) (.int .i64 (iw64 z1))).setCell (p := ⟨b7, 11, none⟩) (.inl (by simp)) (.slice A0 n0 c0)))
    have HB6F := hide (show KB (((W3.setCell ⟨b7, 1, none⟩ (.int .i64 (iw64 z0))).setCell ⟨b7, 3, none⟩ (.int .i64 (iw64 z1))).setCell ⟨b7, 11, none⟩ (.slice A0 n0 c0)) b6 zCl zV from Blk.chg HB6.out HCF.out (by have := HE.out; simp only [List.mem_singleton]; omega))
    go_upto_region 60 with (fail)
    go_wp2_with (first | (refine wpList_load34L (b := b7) (x := ofK 16 [z0, z1] l) (v := .slice A0 n0 c0) rfl _ rfl rfl ?_ ?_; (focus exact HKF.out)) | (refine wpList_store34L (b := b6) (x := zCl) (v := zV) (y := ofK 16 [z0, z1] l) (u := .slice A0 n0 c0) rfl _ _ rfl rfl rfl rfl ?_ ?_; (focus exact HB6F.out); intro W7 h7 hc7))
    refine bodyPost_ret (v := .agg (clc (ofK 16 [z0, z1] l) (.slice A0 n0 c0))) (results_cell_row (p := 6) (ty := 34) rfl _ _ b6 34 _ (0, 0) _ rfl h7 Tryd.underlying34 rfl info34) rfl ⟨rfl, ?_⟩
    exact (HC3.out.trans HCF.out (fun y hy => .inr (by obtain rfl := List.mem_singleton.1 hy; have := HE.out; omega))).trans hc7 (fun y hy => .inr (by obtain rfl := List.mem_singleton.1 hy; have := HE.out; omega))
  · obtain ⟨z0, z1, rfl⟩ : ∃ z0 z1, L = [z0, z1] := by
      have hn2 : L.length = 2 := hn.trans (by decide)
      clear hn h64 hL
      match L, hn2 with
      | [z0, z1], _ => exact ⟨_, _, rfl⟩
    obtain ⟨g, off, cL, rfl, hgl, hcell⟩ := RW_cells hL (by simp)
    have q0 := hcell 0 (by simp)
    have q1 := hcell 1 (by simp)
    simp at q0 q1
    have x0 : IntKind.i64.wrap (z0 : Int) = iw64 z0 := i64_wrap (h64 z0 (by simp))
    have x1 : IntKind.i64.wrap (z1 : Int) = iw64 z1 := i64_wrap (h64 z1 (by simp))
    clear hcell hL h64 hn
    go_enter Tryd.func45, Tryd.ntmps45
    go_upto_region 2 with (first | (refine wpList_alloc34 rfl rfl ?_; try simp only [World.size_alloc]; try go_simp) | (refine wpList_store34 (b := w.heap.size + 1) (y := { zCl with k := 17 }) (u := zV) rfl _ _ rfl rfl rfl rfl (by have := Blk.new (w.alloc (.cells (clc zCl zV) 34)) 34 (clc zCl zV); rwa [World.size_alloc] at this) ?_; intro W3 h3 hc3))
    have HC3 := hide (show Chg [] w W3 from (((Chg.refl [] w).alloc _).alloc _).trans hc3 (fun y hy => .inr (by obtain rfl := List.mem_singleton.1 hy; omega)))
    have HB6 := hide (show KB W3 w.heap.size zCl zV from Blk.chg ((Blk.new w 34 _).alloc _) hc3 (by simp only [List.mem_singleton]; omega))
    obtain ⟨b6, e6⟩ : ∃ b, b = w.heap.size := ⟨_, rfl⟩
    obtain ⟨b7, e7⟩ : ∃ b, b = w.heap.size + 1 := ⟨_, rfl⟩
    rw [← e7, ← e6]
    rw [← e7] at h3
    rw [← e6] at HB6
    have HE := hide (And.intro e6 e7)
    have HK := hide h3
    obtain ⟨f0, f1, f2, f3, f4, f5, f6, f7, f8, f9, f10, f11, fl, ff⟩ := KB.cells h3
    have hne : ¬ g = b7 := by omega
    have hne2 : ¬ b7 = g := by omega
    have r0 := Chg.cell HC3.out q0 List.not_mem_nil
    have r1 := Chg.cell HC3.out q1 List.not_mem_nil
    clear q0 q1 hgl
    clear h3 hc3 e6 e7
    have HKF := hide (show KB (((W3.setCell ⟨b7, 1, none⟩ (.int .i64 (iw64 z0))).setCell ⟨b7, 3, none⟩ (.int .i64 (iw64 z1))).setCell ⟨b7, 11, none⟩ (.slice A0 n0 c0)) b7 (ofK 17 [z0, z1] l) (.slice A0 n0 c0) from (KB.put (y := ofK 17 [z0, z1] l) (u := .slice A0 n0 c0) ((KB.put (y := { zCl with k := 17, p := iw64 z0, g := iw64 z1 }) (u := zV) ((KB.put (y := { zCl with k := 17, p := iw64 z0 }) (u := zV) (HK.out) 1 (.int .i64 (iw64 z0)) rfl)) 3 (.int .i64 (iw64 z1)) rfl)) 11 (.slice A0 n0 c0) rfl))
    have HCF := hide (show Chg [b7] W3 (((W3.setCell ⟨b7, 1, none⟩ (.int .i64 (iw64 z0))).setCell ⟨b7, 3, none⟩ (.int .i64 (iw64 z1))).setCell ⟨b7, 11, none⟩ (.slice A0 n0 c0)) from ((((Chg.refl [b7] W3).setCell (p := ⟨b7, 1, none⟩) (.inl (by simp)) (.int .i64 (iw64 z0))).setCell (p := ⟨b7, 3, none⟩) (.inl (by simp)) (.int .i64 (iw64 z1))).setCell (p := ⟨b7, 11, none⟩) (.inl (by simp)) (.slice A0 n0 c0)))
    have HB6F := hide (show KB (((W3.setCell ⟨b7, 1, none⟩ (.int .i64 (iw64 z0))).setCell ⟨b7, 3, none⟩ (.int .i64 (iw64 z1))).setCell ⟨b7, 11, none⟩ (.slice A0 n0 c0)) b6 zCl zV from Blk.chg HB6.out HCF.out (by have := HE.out; simp only [List.mem_singleton]; omega))
    go_upto_region 60 with (fail)
    go_wp2_with (first | (refine wpList_load34L (b := b7) (x := ofK 17 [z0, z1] l) (v := .slice A0 n0 c0) rfl _ rfl rfl ?_ ?_; (focus exact HKF.out)) | (refine wpList_store34L (b := b6) (x := zCl) (v := zV) (y := ofK 17 [z0, z1] l) (u := .slice A0 n0 c0) rfl _ _ rfl rfl rfl rfl ?_ ?_; (focus exact HB6F.out); intro W7 h7 hc7))
    refine bodyPost_ret (v := .agg (clc (ofK 17 [z0, z1] l) (.slice A0 n0 c0))) (results_cell_row (p := 6) (ty := 34) rfl _ _ b6 34 _ (0, 0) _ rfl h7 Tryd.underlying34 rfl info34) rfl ⟨rfl, ?_⟩
    exact (HC3.out.trans HCF.out (fun y hy => .inr (by obtain rfl := List.mem_singleton.1 hy; have := HE.out; omega))).trans hc7 (fun y hy => .inr (by obtain rfl := List.mem_singleton.1 hy; have := HE.out; omega))
  · obtain ⟨z0, z1, z2, z3, rfl⟩ : ∃ z0 z1 z2 z3, L = [z0, z1, z2, z3] := by
      have hn2 : L.length = 4 := hn.trans (by decide)
      clear hn h64 hL
      match L, hn2 with
      | [z0, z1, z2, z3], _ => exact ⟨_, _, _, _, rfl⟩
    obtain ⟨g, off, cL, rfl, hgl, hcell⟩ := RW_cells hL (by simp)
    have q0 := hcell 0 (by simp)
    have q1 := hcell 1 (by simp)
    have q2 := hcell 2 (by simp)
    have q3 := hcell 3 (by simp)
    simp at q0 q1 q2 q3
    have x0 : IntKind.i64.wrap (z0 : Int) = iw64 z0 := i64_wrap (h64 z0 (by simp))
    have x1 : IntKind.i64.wrap (z1 : Int) = iw64 z1 := i64_wrap (h64 z1 (by simp))
    have x2 : IntKind.i64.wrap (z2 : Int) = iw64 z2 := i64_wrap (h64 z2 (by simp))
    have x3 : IntKind.i64.wrap (z3 : Int) = iw64 z3 := i64_wrap (h64 z3 (by simp))
    clear hcell hL h64 hn
    go_enter Tryd.func45, Tryd.ntmps45
    go_upto_region 2 with (first | (refine wpList_alloc34 rfl rfl ?_; try simp only [World.size_alloc]; try go_simp) | (refine wpList_store34 (b := w.heap.size + 1) (y := { zCl with k := 18 }) (u := zV) rfl _ _ rfl rfl rfl rfl (by have := Blk.new (w.alloc (.cells (clc zCl zV) 34)) 34 (clc zCl zV); rwa [World.size_alloc] at this) ?_; intro W3 h3 hc3))
    have HC3 := hide (show Chg [] w W3 from (((Chg.refl [] w).alloc _).alloc _).trans hc3 (fun y hy => .inr (by obtain rfl := List.mem_singleton.1 hy; omega)))
    have HB6 := hide (show KB W3 w.heap.size zCl zV from Blk.chg ((Blk.new w 34 _).alloc _) hc3 (by simp only [List.mem_singleton]; omega))
    obtain ⟨b6, e6⟩ : ∃ b, b = w.heap.size := ⟨_, rfl⟩
    obtain ⟨b7, e7⟩ : ∃ b, b = w.heap.size + 1 := ⟨_, rfl⟩
    rw [← e7, ← e6]
    rw [← e7] at h3
    rw [← e6] at HB6
    have HE := hide (And.intro e6 e7)
    have HK := hide h3
    obtain ⟨f0, f1, f2, f3, f4, f5, f6, f7, f8, f9, f10, f11, fl, ff⟩ := KB.cells h3
    have hne : ¬ g = b7 := by omega
    have hne2 : ¬ b7 = g := by omega
    have r0 := Chg.cell HC3.out q0 List.not_mem_nil
    have r1 := Chg.cell HC3.out q1 List.not_mem_nil
    have r2 := Chg.cell HC3.out q2 List.not_mem_nil
    have r3 := Chg.cell HC3.out q3 List.not_mem_nil
    clear q0 q1 q2 q3 hgl
    clear h3 hc3 e6 e7
    have HKF := hide (show KB (((((W3.setCell ⟨b7, 1, none⟩ (.int .i64 (iw64 z0))).setCell ⟨b7, 3, none⟩ (.int .i64 (iw64 z1))).setCell ⟨b7, 4, none⟩ (.int .i64 (iw64 z2))).setCell ⟨b7, 2, none⟩ (.int .i64 (iw64 z3))).setCell ⟨b7, 11, none⟩ (.slice A0 n0 c0)) b7 (ofK 18 [z0, z1, z2, z3] l) (.slice A0 n0 c0) from (KB.put (y := ofK 18 [z0, z1, z2, z3] l) (u := .slice A0 n0 c0) ((KB.put (y := { zCl with k := 18, p := iw64 z0, g := iw64 z1, c := iw64 z2, n := iw64 z3 }) (u := zV) ((KB.put (y := { zCl with k := 18, p := iw64 z0, g := iw64 z1, c := iw64 z2 }) (u := zV) ((KB.put (y := { zCl with k := 18, p := iw64 z0, g := iw64 z1 }) (u := zV) ((KB.put (y := { zCl with k := 18, p := iw64 z0 }) (u := zV) (HK.out) 1 (.int .i64 (iw64 z0)) rfl)) 3 (.int .i64 (iw64 z1)) rfl)) 4 (.int .i64 (iw64 z2)) rfl)) 2 (.int .i64 (iw64 z3)) rfl)) 11 (.slice A0 n0 c0) rfl))
    have HCF := hide (show Chg [b7] W3 (((((W3.setCell ⟨b7, 1, none⟩ (.int .i64 (iw64 z0))).setCell ⟨b7, 3, none⟩ (.int .i64 (iw64 z1))).setCell ⟨b7, 4, none⟩ (.int .i64 (iw64 z2))).setCell ⟨b7, 2, none⟩ (.int .i64 (iw64 z3))).setCell ⟨b7, 11, none⟩ (.slice A0 n0 c0)) from ((((((Chg.refl [b7] W3).setCell (p := ⟨b7, 1, none⟩) (.inl (by simp)) (.int .i64 (iw64 z0))).setCell (p := ⟨b7, 3, none⟩) (.inl (by simp)) (.int .i64 (iw64 z1))).setCell (p := ⟨b7, 4, none⟩) (.inl (by simp)) (.int .i64 (iw64 z2))).setCell (p := ⟨b7, 2, none⟩) (.inl (by simp)) (.int .i64 (iw64 z3))).setCell (p := ⟨b7, 11, none⟩) (.inl (by simp)) (.slice A0 n0 c0)))
    have HB6F := hide (show KB (((((W3.setCell ⟨b7, 1, none⟩ (.int .i64 (iw64 z0))).setCell ⟨b7, 3, none⟩ (.int .i64 (iw64 z1))).setCell ⟨b7, 4, none⟩ (.int .i64 (iw64 z2))).setCell ⟨b7, 2, none⟩ (.int .i64 (iw64 z3))).setCell ⟨b7, 11, none⟩ (.slice A0 n0 c0)) b6 zCl zV from Blk.chg HB6.out HCF.out (by have := HE.out; simp only [List.mem_singleton]; omega))
    go_upto_region 60 with (fail)
    go_wp2_with (first | (refine wpList_load34L (b := b7) (x := ofK 18 [z0, z1, z2, z3] l) (v := .slice A0 n0 c0) rfl _ rfl rfl ?_ ?_; (focus exact HKF.out)) | (refine wpList_store34L (b := b6) (x := zCl) (v := zV) (y := ofK 18 [z0, z1, z2, z3] l) (u := .slice A0 n0 c0) rfl _ _ rfl rfl rfl rfl ?_ ?_; (focus exact HB6F.out); intro W7 h7 hc7))
    refine bodyPost_ret (v := .agg (clc (ofK 18 [z0, z1, z2, z3] l) (.slice A0 n0 c0))) (results_cell_row (p := 6) (ty := 34) rfl _ _ b6 34 _ (0, 0) _ rfl h7 Tryd.underlying34 rfl info34) rfl ⟨rfl, ?_⟩
    exact (HC3.out.trans HCF.out (fun y hy => .inr (by obtain rfl := List.mem_singleton.1 hy; have := HE.out; omega))).trans hc7 (fun y hy => .inr (by obtain rfl := List.mem_singleton.1 hy; have := HE.out; omega))
  · obtain ⟨z0, rfl⟩ : ∃ z0, L = [z0] := by
      have hn2 : L.length = 1 := hn.trans (by decide)
      clear hn h64 hL
      match L, hn2 with
      | [z0], _ => exact ⟨_, rfl⟩
    obtain ⟨g, off, cL, rfl, hgl, hcell⟩ := RW_cells hL (by simp)
    have q0 := hcell 0 (by simp)
    simp at q0
    have x0 : IntKind.i64.wrap (z0 : Int) = iw64 z0 := i64_wrap (h64 z0 (by simp))
    clear hcell hL h64 hn
    go_enter Tryd.func45, Tryd.ntmps45
    go_upto_region 2 with (first | (refine wpList_alloc34 rfl rfl ?_; try simp only [World.size_alloc]; try go_simp) | (refine wpList_store34 (b := w.heap.size + 1) (y := { zCl with k := 19 }) (u := zV) rfl _ _ rfl rfl rfl rfl (by have := Blk.new (w.alloc (.cells (clc zCl zV) 34)) 34 (clc zCl zV); rwa [World.size_alloc] at this) ?_; intro W3 h3 hc3))
    have HC3 := hide (show Chg [] w W3 from (((Chg.refl [] w).alloc _).alloc _).trans hc3 (fun y hy => .inr (by obtain rfl := List.mem_singleton.1 hy; omega)))
    have HB6 := hide (show KB W3 w.heap.size zCl zV from Blk.chg ((Blk.new w 34 _).alloc _) hc3 (by simp only [List.mem_singleton]; omega))
    obtain ⟨b6, e6⟩ : ∃ b, b = w.heap.size := ⟨_, rfl⟩
    obtain ⟨b7, e7⟩ : ∃ b, b = w.heap.size + 1 := ⟨_, rfl⟩
    rw [← e7, ← e6]
    rw [← e7] at h3
    rw [← e6] at HB6
    have HE := hide (And.intro e6 e7)
    have HK := hide h3
    obtain ⟨f0, f1, f2, f3, f4, f5, f6, f7, f8, f9, f10, f11, fl, ff⟩ := KB.cells h3
    have hne : ¬ g = b7 := by omega
    have hne2 : ¬ b7 = g := by omega
    have r0 := Chg.cell HC3.out q0 List.not_mem_nil
    clear q0 hgl
    clear h3 hc3 e6 e7
    have HKF := hide (show KB ((W3.setCell ⟨b7, 2, none⟩ (.int .i64 (iw64 z0))).setCell ⟨b7, 11, none⟩ (.slice A0 n0 c0)) b7 (ofK 19 [z0] l) (.slice A0 n0 c0) from (KB.put (y := ofK 19 [z0] l) (u := .slice A0 n0 c0) ((KB.put (y := { zCl with k := 19, n := iw64 z0 }) (u := zV) (HK.out) 2 (.int .i64 (iw64 z0)) rfl)) 11 (.slice A0 n0 c0) rfl))
    have HCF := hide (show Chg [b7] W3 ((W3.setCell ⟨b7, 2, none⟩ (.int .i64 (iw64 z0))).setCell ⟨b7, 11, none⟩ (.slice A0 n0 c0)) from (((Chg.refl [b7] W3).setCell (p := ⟨b7, 2, none⟩) (.inl (by simp)) (.int .i64 (iw64 z0))).setCell (p := ⟨b7, 11, none⟩) (.inl (by simp)) (.slice A0 n0 c0)))
    have HB6F := hide (show KB ((W3.setCell ⟨b7, 2, none⟩ (.int .i64 (iw64 z0))).setCell ⟨b7, 11, none⟩ (.slice A0 n0 c0)) b6 zCl zV from Blk.chg HB6.out HCF.out (by have := HE.out; simp only [List.mem_singleton]; omega))
    go_upto_region 60 with (fail)
    go_wp2_with (first | (refine wpList_load34L (b := b7) (x := ofK 19 [z0] l) (v := .slice A0 n0 c0) rfl _ rfl rfl ?_ ?_; (focus exact HKF.out)) | (refine wpList_store34L (b := b6) (x := zCl) (v := zV) (y := ofK 19 [z0] l) (u := .slice A0 n0 c0) rfl _ _ rfl rfl rfl rfl ?_ ?_; (focus exact HB6F.out); intro W7 h7 hc7))
    refine bodyPost_ret (v := .agg (clc (ofK 19 [z0] l) (.slice A0 n0 c0))) (results_cell_row (p := 6) (ty := 34) rfl _ _ b6 34 _ (0, 0) _ rfl h7 Tryd.underlying34 rfl info34) rfl ⟨rfl, ?_⟩
    exact (HC3.out.trans HCF.out (fun y hy => .inr (by obtain rfl := List.mem_singleton.1 hy; have := HE.out; omega))).trans hc7 (fun y hy => .inr (by obtain rfl := List.mem_singleton.1 hy; have := HE.out; omega))
  · obtain ⟨z0, rfl⟩ : ∃ z0, L = [z0] := by
      have hn2 : L.length = 1 := hn.trans (by decide)
      clear hn h64 hL
      match L, hn2 with
      | [z0], _ => exact ⟨_, rfl⟩
    obtain ⟨g, off, cL, rfl, hgl, hcell⟩ := RW_cells hL (by simp)
    have q0 := hcell 0 (by simp)
    simp at q0
    have x0 : IntKind.i64.wrap (z0 : Int) = iw64 z0 := i64_wrap (h64 z0 (by simp))
    clear hcell hL h64 hn
    go_enter Tryd.func45, Tryd.ntmps45
    go_upto_region 2 with (first | (refine wpList_alloc34 rfl rfl ?_; try simp only [World.size_alloc]; try go_simp) | (refine wpList_store34 (b := w.heap.size + 1) (y := { zCl with k := 20 }) (u := zV) rfl _ _ rfl rfl rfl rfl (by have := Blk.new (w.alloc (.cells (clc zCl zV) 34)) 34 (clc zCl zV); rwa [World.size_alloc] at this) ?_; intro W3 h3 hc3))
    have HC3 := hide (show Chg [] w W3 from (((Chg.refl [] w).alloc _).alloc _).trans hc3 (fun y hy => .inr (by obtain rfl := List.mem_singleton.1 hy; omega)))
    have HB6 := hide (show KB W3 w.heap.size zCl zV from Blk.chg ((Blk.new w 34 _).alloc _) hc3 (by simp only [List.mem_singleton]; omega))
    obtain ⟨b6, e6⟩ : ∃ b, b = w.heap.size := ⟨_, rfl⟩
    obtain ⟨b7, e7⟩ : ∃ b, b = w.heap.size + 1 := ⟨_, rfl⟩
    rw [← e7, ← e6]
    rw [← e7] at h3
    rw [← e6] at HB6
    have HE := hide (And.intro e6 e7)
    have HK := hide h3
    obtain ⟨f0, f1, f2, f3, f4, f5, f6, f7, f8, f9, f10, f11, fl, ff⟩ := KB.cells h3
    have hne : ¬ g = b7 := by omega
    have hne2 : ¬ b7 = g := by omega
    have r0 := Chg.cell HC3.out q0 List.not_mem_nil
    clear q0 hgl
    clear h3 hc3 e6 e7
    have HKF := hide (show KB ((W3.setCell ⟨b7, 2, none⟩ (.int .i64 (iw64 z0))).setCell ⟨b7, 11, none⟩ (.slice A0 n0 c0)) b7 (ofK 20 [z0] l) (.slice A0 n0 c0) from (KB.put (y := ofK 20 [z0] l) (u := .slice A0 n0 c0) ((KB.put (y := { zCl with k := 20, n := iw64 z0 }) (u := zV) (HK.out) 2 (.int .i64 (iw64 z0)) rfl)) 11 (.slice A0 n0 c0) rfl))
    have HCF := hide (show Chg [b7] W3 ((W3.setCell ⟨b7, 2, none⟩ (.int .i64 (iw64 z0))).setCell ⟨b7, 11, none⟩ (.slice A0 n0 c0)) from (((Chg.refl [b7] W3).setCell (p := ⟨b7, 2, none⟩) (.inl (by simp)) (.int .i64 (iw64 z0))).setCell (p := ⟨b7, 11, none⟩) (.inl (by simp)) (.slice A0 n0 c0)))
    have HB6F := hide (show KB ((W3.setCell ⟨b7, 2, none⟩ (.int .i64 (iw64 z0))).setCell ⟨b7, 11, none⟩ (.slice A0 n0 c0)) b6 zCl zV from Blk.chg HB6.out HCF.out (by have := HE.out; simp only [List.mem_singleton]; omega))
    go_upto_region 60 with (fail)
    go_wp2_with (first | (refine wpList_load34L (b := b7) (x := ofK 20 [z0] l) (v := .slice A0 n0 c0) rfl _ rfl rfl ?_ ?_; (focus exact HKF.out)) | (refine wpList_store34L (b := b6) (x := zCl) (v := zV) (y := ofK 20 [z0] l) (u := .slice A0 n0 c0) rfl _ _ rfl rfl rfl rfl ?_ ?_; (focus exact HB6F.out); intro W7 h7 hc7))
    refine bodyPost_ret (v := .agg (clc (ofK 20 [z0] l) (.slice A0 n0 c0))) (results_cell_row (p := 6) (ty := 34) rfl _ _ b6 34 _ (0, 0) _ rfl h7 Tryd.underlying34 rfl info34) rfl ⟨rfl, ?_⟩
    exact (HC3.out.trans HCF.out (fun y hy => .inr (by obtain rfl := List.mem_singleton.1 hy; have := HE.out; omega))).trans hc7 (fun y hy => .inr (by obtain rfl := List.mem_singleton.1 hy; have := HE.out; omega))
  · obtain rfl : L = [] := List.eq_nil_of_length_eq_zero hn
    obtain ⟨AL, cL, rfl⟩ := RE.form hL
    clear hL h64 hn
    go_enter Tryd.func45, Tryd.ntmps45
    go_upto_region 2 with (first | (refine wpList_alloc34 rfl rfl ?_; try simp only [World.size_alloc]; try go_simp) | (refine wpList_store34 (b := w.heap.size + 1) (y := { zCl with k := 21 }) (u := zV) rfl _ _ rfl rfl rfl rfl (by have := Blk.new (w.alloc (.cells (clc zCl zV) 34)) 34 (clc zCl zV); rwa [World.size_alloc] at this) ?_; intro W3 h3 hc3))
    have HC3 := hide (show Chg [] w W3 from (((Chg.refl [] w).alloc _).alloc _).trans hc3 (fun y hy => .inr (by obtain rfl := List.mem_singleton.1 hy; omega)))
    have HB6 := hide (show KB W3 w.heap.size zCl zV from Blk.chg ((Blk.new w 34 _).alloc _) hc3 (by simp only [List.mem_singleton]; omega))
    obtain ⟨b6, e6⟩ : ∃ b, b = w.heap.size := ⟨_, rfl⟩
    obtain ⟨b7, e7⟩ : ∃ b, b = w.heap.size + 1 := ⟨_, rfl⟩
    rw [← e7, ← e6]
    rw [← e7] at h3
    rw [← e6] at HB6
    have HE := hide (And.intro e6 e7)
    have HK := hide h3
    obtain ⟨f0, f1, f2, f3, f4, f5, f6, f7, f8, f9, f10, f11, fl, ff⟩ := KB.cells h3
    clear h3 hc3 e6 e7
    have HKF := hide (show KB (W3.setCell ⟨b7, 11, none⟩ (.slice A0 n0 c0)) b7 (ofK 21 [] l) (.slice A0 n0 c0) from (KB.put (y := ofK 21 [] l) (u := .slice A0 n0 c0) (HK.out) 11 (.slice A0 n0 c0) rfl))
    have HCF := hide (show Chg [b7] W3 (W3.setCell ⟨b7, 11, none⟩ (.slice A0 n0 c0)) from ((Chg.refl [b7] W3).setCell (p := ⟨b7, 11, none⟩) (.inl (by simp)) (.slice A0 n0 c0)))
    have HB6F := hide (show KB (W3.setCell ⟨b7, 11, none⟩ (.slice A0 n0 c0)) b6 zCl zV from Blk.chg HB6.out HCF.out (by have := HE.out; simp only [List.mem_singleton]; omega))
    go_upto_region 60 with (fail)
    go_wp2_with (first | (refine wpList_load34L (b := b7) (x := ofK 21 [] l) (v := .slice A0 n0 c0) rfl _ rfl rfl ?_ ?_; (focus exact HKF.out)) | (refine wpList_store34L (b := b6) (x := zCl) (v := zV) (y := ofK 21 [] l) (u := .slice A0 n0 c0) rfl _ _ rfl rfl rfl rfl ?_ ?_; (focus exact HB6F.out); intro W7 h7 hc7))
    refine bodyPost_ret (v := .agg (clc (ofK 21 [] l) (.slice A0 n0 c0))) (results_cell_row (p := 6) (ty := 34) rfl _ _ b6 34 _ (0, 0) _ rfl h7 Tryd.underlying34 rfl info34) rfl ⟨rfl, ?_⟩
    exact (HC3.out.trans HCF.out (fun y hy => .inr (by obtain rfl := List.mem_singleton.1 hy; have := HE.out; omega))).trans hc7 (fun y hy => .inr (by obtain rfl := List.mem_singleton.1 hy; have := HE.out; omega))
  · have hn : L.length = 0 := hn.trans (by show ((fld k).flatMap _).length = 0; rw [fld_big hk]; rfl)
    obtain rfl : L = [] := List.eq_nil_of_length_eq_zero hn
    obtain ⟨AL, cL, rfl⟩ := RE.form hL
    clear hL h64 hn
    go_enter Tryd.func45, Tryd.ntmps45
    go_upto_region 2 with (first | (refine wpList_alloc34 rfl rfl ?_; try simp only [World.size_alloc]; try go_simp) | (refine wpList_store34 (b := w.heap.size + 1) (y := { zCl with k := k }) (u := zV) rfl _ _ rfl rfl rfl rfl (by have := Blk.new (w.alloc (.cells (clc zCl zV) 34)) 34 (clc zCl zV); rwa [World.size_alloc] at this) ?_; intro W3 h3 hc3))
    have HC3 := hide (show Chg [] w W3 from (((Chg.refl [] w).alloc _).alloc _).trans hc3 (fun y hy => .inr (by obtain rfl := List.mem_singleton.1 hy; omega)))
    have HB6 := hide (show KB W3 w.heap.size zCl zV from Blk.chg ((Blk.new w 34 _).alloc _) hc3 (by simp only [List.mem_singleton]; omega))
    obtain ⟨b6, e6⟩ : ∃ b, b = w.heap.size := ⟨_, rfl⟩
    obtain ⟨b7, e7⟩ : ∃ b, b = w.heap.size + 1 := ⟨_, rfl⟩
    rw [← e7, ← e6]
    rw [← e7] at h3
    rw [← e6] at HB6
    have HE := hide (And.intro e6 e7)
    have HK := hide h3
    obtain ⟨f0, f1, f2, f3, f4, f5, f6, f7, f8, f9, f10, f11, fl, ff⟩ := KB.cells h3
    clear h3 hc3 e6 e7
    have HKF := hide (show KB (W3.setCell ⟨b7, 11, none⟩ (.slice A0 n0 c0)) b7 (zB k l) (.slice A0 n0 c0) from (KB.put (y := zB k l) (u := .slice A0 n0 c0) (HK.out) 11 (.slice A0 n0 c0) rfl))
    have HCF := hide (show Chg [b7] W3 (W3.setCell ⟨b7, 11, none⟩ (.slice A0 n0 c0)) from ((Chg.refl [b7] W3).setCell (p := ⟨b7, 11, none⟩) (.inl (by simp)) (.slice A0 n0 c0)))
    have HB6F := hide (show KB (W3.setCell ⟨b7, 11, none⟩ (.slice A0 n0 c0)) b6 zCl zV from Blk.chg HB6.out HCF.out (by have := HE.out; simp only [List.mem_singleton]; omega))
    have e1 : ((k : Int) == 1) = false := beq_false_of_ne (by omega)
    have g1 : decide (k = 1) = false := decide_eq_false (by omega)
    have e2 : ((k : Int) == 2) = false := beq_false_of_ne (by omega)
    have g2 : decide (k = 2) = false := decide_eq_false (by omega)
    have e3 : ((k : Int) == 3) = false := beq_false_of_ne (by omega)
    have g3 : decide (k = 3) = false := decide_eq_false (by omega)
    have e4 : ((k : Int) == 4) = false := beq_false_of_ne (by omega)
    have g4 : decide (k = 4) = false := decide_eq_false (by omega)
    have e5 : ((k : Int) == 5) = false := beq_false_of_ne (by omega)
    have g5 : decide (k = 5) = false := decide_eq_false (by omega)
    have e6 : ((k : Int) == 6) = false := beq_false_of_ne (by omega)
    have g6 : decide (k = 6) = false := decide_eq_false (by omega)
    have e7 : ((k : Int) == 7) = false := beq_false_of_ne (by omega)
    have g7 : decide (k = 7) = false := decide_eq_false (by omega)
    have e8 : ((k : Int) == 8) = false := beq_false_of_ne (by omega)
    have g8 : decide (k = 8) = false := decide_eq_false (by omega)
    have e9 : ((k : Int) == 9) = false := beq_false_of_ne (by omega)
    have g9 : decide (k = 9) = false := decide_eq_false (by omega)
    have e10 : ((k : Int) == 10) = false := beq_false_of_ne (by omega)
    have g10 : decide (k = 10) = false := decide_eq_false (by omega)
    have e11 : ((k : Int) == 11) = false := beq_false_of_ne (by omega)
    have g11 : decide (k = 11) = false := decide_eq_false (by omega)
    have e12 : ((k : Int) == 12) = false := beq_false_of_ne (by omega)
    have g12 : decide (k = 12) = false := decide_eq_false (by omega)
    have e13 : ((k : Int) == 13) = false := beq_false_of_ne (by omega)
    have g13 : decide (k = 13) = false := decide_eq_false (by omega)
    have e14 : ((k : Int) == 14) = false := beq_false_of_ne (by omega)
    have g14 : decide (k = 14) = false := decide_eq_false (by omega)
    have e15 : ((k : Int) == 15) = false := beq_false_of_ne (by omega)
    have g15 : decide (k = 15) = false := decide_eq_false (by omega)
    have e16 : ((k : Int) == 16) = false := beq_false_of_ne (by omega)
    have g16 : decide (k = 16) = false := decide_eq_false (by omega)
    have e17 : ((k : Int) == 17) = false := beq_false_of_ne (by omega)
    have g17 : decide (k = 17) = false := decide_eq_false (by omega)
    have e18 : ((k : Int) == 18) = false := beq_false_of_ne (by omega)
    have g18 : decide (k = 18) = false := decide_eq_false (by omega)
    have e19 : ((k : Int) == 19) = false := beq_false_of_ne (by omega)
    have g19 : decide (k = 19) = false := decide_eq_false (by omega)
    have e20 : ((k : Int) == 20) = false := beq_false_of_ne (by omega)
    have g20 : decide (k = 20) = false := decide_eq_false (by omega)
    have e21 : ((k : Int) == 21) = false := beq_false_of_ne (by omega)
    have g21 : decide (k = 21) = false := decide_eq_false (by omega)
    go_upto_region 60 with (fail)
    go_wp2_with (first | (refine wpList_load34L (b := b7) (x := zB k l) (v := .slice A0 n0 c0) rfl _ rfl rfl ?_ ?_; (focus exact HKF.out)) | (refine wpList_store34L (b := b6) (x := zCl) (v := zV) (y := zB k l) (u := .slice A0 n0 c0) rfl _ _ rfl rfl rfl rfl ?_ ?_; (focus exact HB6F.out); intro W7 h7 hc7))
    have hof : ofK k [] l = zB k l := by obtain ⟨j, rfl⟩ : ∃ j, k = j + 22 := ⟨k - 22, by omega⟩; rfl
    rw [hof]
    refine bodyPost_ret (v := .agg (clc (zB k l) (.slice A0 n0 c0))) (results_cell_row (p := 6) (ty := 34) rfl _ _ b6 34 _ (0, 0) _ rfl h7 Tryd.underlying34 rfl info34) rfl ⟨rfl, ?_⟩
    exact (HC3.out.trans HCF.out (fun y hy => .inr (by obtain rfl := List.mem_singleton.1 hy; have := HE.out; omega))).trans hc7 (fun y hy => .inr (by obtain rfl := List.mem_singleton.1 hy; have := HE.out; omega))
end Go.Proofs.YtinlpjgjjplceaaDoor
