/- FramesNone: the walk. -/
import Derived.Test.YtblkfikcfgocgaaFrS
namespace Go.Proofs.Ytblkfikcfgocgaa
open Go Go.RowKit

theorem zeroMg : mg (fun _ => 0) (.slice none 0 0) (.slice none 0 0) = Array.replicate 94 (.int .i64 0) ++ #[.slice none 0 0, .slice none 0 0] := by
  unfold mg
  rw [zeroCg]
theorem zero79 : ∀ w, (zeroValue 79).run Try.prog w = .ok (.agg (mg (fun _ => 0) (.slice none 0 0) (.slice none 0 0))) w := by
  have h : (Try.prog.info? 79).map (fun i => (i.zero, i.size)) = some (some (.agg (Array.replicate 94 (.int .i64 0) ++ #[.slice none 0 0, .slice none 0 0])), 96) := by kernel_rfl
  rw [zeroMg]
  exact (zero_of_info h).1
theorem run_alloc79 (w : World) : (Instr.alloc 79 true (.tuple #[])).run Try.prog w = .ok (.pointer (some ⟨w.heap.size, 0, none⟩)) (w.alloc (.cells (mg (fun _ => 0) (.slice none 0 0) (.slice none 0 0)) 79)) := by
  simp [Instr.alloc, Sem.run_bind, zero79, newVar, newRow, run_newObj_alloc, Value.cells]
theorem wpList_alloc79 {ops : Array Oper} {rest : List Oper} {o : Oper} {a : Act} {w : World} {Q : Exit → Act → World → Prop} (hg : o.guard = none) (ho : o.op = .alloc 79)
    (h : wpList Try.prog ops Q rest (a.put o.dst (.pointer (some ⟨w.heap.size, 0, none⟩))) (w.alloc (.cells (mg (fun _ => 0) (.slice none 0 0) (.slice none 0 0)) 79))) : wpList Try.prog ops Q (o :: rest) a w :=
  Great.wpList_runTo hg _ rfl _ _ (by unfold execOp; simp only [ho, Sem.run_bind, run_alloc79, Sem.run_pure, Result.andThen_ok]) h
theorem box46 {W : World} {b : Nat} {k f t n : Int} {v : Value} {ro : Nat} {m1 m2 m3 m4 x : Int} (h : Blk W b 46 #[.int .i64 k, .int .i64 f, .int .i64 t, .int .i64 n, v, .int .u8 ro, .int .i64 m1, .int .i64 m2, .int .i64 m3, .int .i64 m4, .int .u64 x]) :
    W.cell? ⟨b, 1, none⟩ = some (.int .i64 f) ∧ W.cell? ⟨b, 2, none⟩ = some (.int .i64 t) ∧ W.cell? ⟨b, 3, none⟩ = some (.int .i64 n) ∧ W.cell? ⟨b, 4, none⟩ = some v ∧ W.cell? ⟨b, 5, none⟩ = some (.int .u8 ro) ∧ W.cell? ⟨b, 6, none⟩ = some (.int .i64 m1) ∧ W.cell? ⟨b, 7, none⟩ = some (.int .i64 m2) ∧ W.cell? ⟨b, 8, none⟩ = some (.int .i64 m3) ∧ W.cell? ⟨b, 9, none⟩ = some (.int .i64 m4) ∧ W.cell? ⟨b, 10, none⟩ = some (.int .u64 x) ∧ b < W.heap.size :=
  ⟨by simpa using h.cell 1, by simpa using h.cell 2, by simpa using h.cell 3, by simpa using h.cell 4, by simpa using h.cell 5, by simpa using h.cell 6, by simpa using h.cell 7, by simpa using h.cell 8, by simpa using h.cell 9, by simpa using h.cell 10, h.lt⟩
set_option maxRecDepth 20000 in
set_option maxHeartbeats 8000000 in
theorem none_law (k f t n : Int) {A : Option Addr} {m cap : Nat} (ro : Nat) (m1 m2 m3 m4 x : Int) (hm : (m : Int) ≤ 9223372036854775807) (w : World) :
    Calls Try.prog 10 #[.agg #[.int .i64 k, .int .i64 f, .int .i64 t, .int .i64 n, .slice A m cap, .int .u8 ro, .int .i64 m1, .int .i64 m2, .int .i64 m3, .int .i64 m4, .int .u64 x]] w fun e w' => e = .returned (.bool true) ∧ Chg [] w w' := by
  obtain ⟨CS, hCS⟩ : ∃ CS : Array Value, CS = #[.int .i64 k, .int .i64 f, .int .i64 t, .int .i64 n, .slice A m cap, .int .u8 ro, .int .i64 m1, .int .i64 m2, .int .i64 m3, .int .i64 m4, .int .u64 x] := ⟨_, rfl⟩
  have HB := hide (Blk.new w 46 CS)
  have HC := hide (show Chg [] w (w.alloc (.cells CS 46)) from (Chg.refl [] w).alloc _)
  have HK := hide known03_any
  have HZ := hide (show ∀ W, NoM (W.alloc (.cells (mg (fun _ => 0) (.slice none 0 0) (.slice none 0 0)) 79)) (.pointer (some ⟨W.heap.size, 0, none⟩)) from fun W =>
    .inr ⟨W.heap.size, rfl, ((Blk.new W 79 _).cell 95).trans (mg_95 ..), by simp⟩)
  rw [hCS] at HB HC
  clear hCS
  by_cases hlen : 1000 < m
  · have d1 : decide (1000 < (m : Int)) = true := decide_eq_true (by omega)
    have d2 : decide (1000 < m) = true := decide_eq_true hlen
    go_enter Try.func10, Try.ntmps10
    go_wp2_with fail
    refine (HK.out _).mono ?_
    rintro e W3 ⟨rfl, hc3⟩
    have HC3 := hide (HC.out.stay hc3)
    clear hc3
    go_wp2_with fail
    go_ret
    exact ⟨rfl, HC3.out⟩
  have d1 : decide (1000 < (m : Int)) = false := decide_eq_false (by omega)
  have d2 : decide (1000 < m) = false := decide_eq_false hlen
  go_enter Try.func10, Try.ntmps10
  go_wp2_with (first | (refine wpList_alloc79 rfl rfl ?_; try simp only [World.size_alloc]))
  have HBX := hide (fun W (h : Chg [] (((w.alloc (.cells #[.int .i64 k, .int .i64 f, .int .i64 t, .int .i64 n, .slice A m cap, .int .u8 ro, .int .i64 m1, .int .i64 m2, .int .i64 m3, .int .i64 m4, .int .u64 x] 46)).alloc (.cells (mg (fun _ => 0) (.slice none 0 0) (.slice none 0 0)) 79)).alloc (.cells #[.pointer none, .pointer (some ⟨w.heap.size + 1, 0, none⟩)] 28)) W) => box46 (((HB.out.alloc _).alloc _).chg h List.not_mem_nil))
  have HL := hide (fun W (h : Chg [] (((w.alloc (.cells #[.int .i64 k, .int .i64 f, .int .i64 t, .int .i64 n, .slice A m cap, .int .u8 ro, .int .i64 m1, .int .i64 m2, .int .i64 m3, .int .i64 m4, .int .u64 x] 46)).alloc (.cells (mg (fun _ => 0) (.slice none 0 0) (.slice none 0 0)) 79)).alloc (.cells #[.pointer none, .pointer (some ⟨w.heap.size + 1, 0, none⟩)] 28)) W) (i : Nat) (hi : i < 2) =>
    show ∃ p, W.cell? ⟨w.heap.size + 1 + 1, i, none⟩ = some p ∧ NoM W p ∧ w.heap.size + 1 + 1 < W.heap.size from by
      have hb := (Blk.new ((w.alloc (.cells #[.int .i64 k, .int .i64 f, .int .i64 t, .int .i64 n, .slice A m cap, .int .u8 ro, .int .i64 m1, .int .i64 m2, .int .i64 m3, .int .i64 m4, .int .u64 x] 46)).alloc (.cells (mg (fun _ => 0) (.slice none 0 0) (.slice none 0 0)) 79)) 28 #[.pointer none, .pointer (some ⟨w.heap.size + 1, 0, none⟩)]).chg h List.not_mem_nil
      simp only [World.size_alloc] at hb
      have hz := (HZ.out (w.alloc (.cells #[.int .i64 k, .int .i64 f, .int .i64 t, .int .i64 n, .slice A m cap, .int .u8 ro, .int .i64 m1, .int .i64 m2, .int .i64 m3, .int .i64 m4, .int .u64 x] 46))).stay (((Chg.refl [] _).alloc _).stay h)
      simp only [World.size_alloc] at hz
      have hc := hb.cell i
      match i, hi with
      | 0, _ => exact ⟨_, hc, .inl rfl, hb.lt⟩
      | 1, _ => exact ⟨_, hc, hz, hb.lt⟩)
  have HC2 := hide ((HC.out.alloc (.cells (mg (fun _ => 0) (.slice none 0 0) (.slice none 0 0)) 79)).alloc (.cells #[.pointer none, .pointer (some ⟨w.heap.size + 1, 0, none⟩)] 28))
  clear HB HC HZ
  generalize hW2 : (((w.alloc (.cells #[.int .i64 k, .int .i64 f, .int .i64 t, .int .i64 n, .slice A m cap, .int .u8 ro, .int .i64 m1, .int .i64 m2, .int .i64 m3, .int .i64 m4, .int .u64 x] 46)).alloc (.cells (mg (fun _ => 0) (.slice none 0 0) (.slice none 0 0)) 79)).alloc (.cells #[.pointer none, .pointer (some ⟨w.heap.size + 1, 0, none⟩)] 28)) = W2 at HBX HL HC2 ⊢
  clear hW2
  have M1 : (m : Int) ≤ 1000 := by omega
  have M2 : m ≤ 1000 := by omega
  clear hlen d1 d2
  go_loopw [21] (fun q wr => ∃ i : Nat, i ≤ 2 ∧ q = .int .i64 i ∧ Chg [] W2 wr) (fun q _ => 2 - (intOf q).toNat)
  case atStart => exact ⟨0, by omega, rfl, Chg.refl _ _⟩
  case round =>
    obtain ⟨i, hi, rfl, hch⟩ := hrel
    obtain ⟨p, hp⟩ : ∃ p : Value, True := ⟨undef, trivial⟩
    have HCH := hide hch
    by_cases hit : i < 2
    · obtain ⟨p, hcp, hn, hls⟩ := HL.out wr hch i hit
      have HN := hide hn
      obtain ⟨b1, b2, b3, b4, b5, b6, b7, b8, b9, b10, bl⟩ := HBX.out wr hch
      have i0 : (0 : Int) ≤ (i : Int) := by omega
      have i1 : (i : Int) < 2 := by omega
      clear hn hch
      go_wp2_with fail
      refine (nRead HN.out f t n).mono ?_
      rintro e W3 ⟨rfl, rfl⟩
      go_wp2_with fail
      refine (nMark HN.out f).mono ?_
      rintro e W5 ⟨rfl, hc5⟩
      have HC5 := hide (HCH.out.stay hc5)
      have HN5 := hide (HN.out.stay hc5)
      clear HN HCH hc5 b1 b2 b3 b4 b5 b6 b7 b8 b9 b10 bl
      obtain ⟨b1, b2, b3, b4, b5, b6, b7, b8, b9, b10, bl⟩ := HBX.out W5 HC5.out
      go_wp2_with fail
      have HC6 := hide (HC5.out.alloc (.cells #[.int .u8 0, .int .i64 0, .int .i64 0, .int .i64 0, .int .i64 0] 43))
      have HN6 := hide (HN5.out.stay ((Chg.refl [] W5).alloc (.cells #[.int .u8 0, .int .i64 0, .int .i64 0, .int .i64 0, .int .i64 0] 43)))
      clear b1 b2 b3 b4 b5 b6 b7 b8 b9 b10 bl HC5 HN5
      generalize W5.alloc (.cells #[.int .u8 0, .int .i64 0, .int .i64 0, .int .i64 0, .int .i64 0] 43) = W6 at HC6 HN6 ⊢
      obtain ⟨b1, b2, b3, b4, b5, b6, b7, b8, b9, b10, bl⟩ := HBX.out W6 HC6.out
      refine (nWord HN6.out f t).mono ?_
      rintro e W ⟨rfl, rfl⟩
      go_wp2_with fail
      refine (nWrite HN6.out f t M2).mono ?_
      rintro e W ⟨rfl, rfl⟩
      go_wp2_with fail
      refine (nClear HN6.out f).mono ?_
      rintro e W ⟨rfl, rfl⟩
      go_wp2_with fail
      refine (nMove HN6.out f t).mono ?_
      rintro e W ⟨rfl, rfl⟩
      go_wp2_with fail
      refine (nSetMark HN6.out f ro m1 m2 m3 m4).mono ?_
      rintro e W7 ⟨rfl, hc7⟩
      have HC7 := hide (HC6.out.stay hc7)
      have HN7 := hide (HN6.out.stay hc7)
      clear HN6 HC6 hc7 b1 b2 b3 b4 b5 b6 b7 b8 b9 b10 bl
      obtain ⟨b1, b2, b3, b4, b5, b6, b7, b8, b9, b10, bl⟩ := HBX.out W7 HC7.out
      go_wp2_with fail
      refine (nSetWord HN7.out f t x).mono ?_
      rintro e W ⟨rfl, rfl⟩
      go_wp2_with fail
      refine (nFrames HN7.out).mono ?_
      rintro e W ⟨rfl, rfl⟩
      go_wp2_with fail
      refine (nCount HN7.out f 1).mono ?_
      rintro e W ⟨rfl, rfl⟩
      go_wp2_with fail
      refine (nBytes HN7.out f).mono ?_
      rintro e W ⟨rfl, rfl⟩
      go_wp2_with fail
      refine (nCopy HN7.out).mono ?_
      rintro e W ⟨rfl, rfl⟩
      go_wp2_with fail
      go_roundw
      case rel => exact ⟨i + 1, by omega, by go_num, HC7.out⟩
      case measure => simp [intOf]; omega
    · obtain rfl : i = 2 := by omega
      go_wp2_with fail
      refine (HK.out _).mono ?_
      rintro e W9 ⟨rfl, hc9⟩
      have HC9 := hide ((HC2.out.stay HCH.out).stay hc9)
      clear hc9
      go_wp2_with fail
      go_ret
      exact ⟨rfl, HC9.out⟩
end Go.Proofs.Ytblkfikcfgocgaa
