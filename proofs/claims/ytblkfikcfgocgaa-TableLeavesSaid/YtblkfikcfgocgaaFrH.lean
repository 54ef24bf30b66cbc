/- The law's least machine; what is known. -/
import Derived.Test.YtblkfikcfgocgaaFrG
import Derived.Laws.IdiomStrings
namespace Go.Proofs.Ytblkfikcfgocgaa
open Go Go.RowKit

structure BT (l : List (Nat × Value)) (d : Cf) : Prop where
  h : Try.prog.built 26 l = some (cg d)
theorem wpList_build26 {ops : Array Oper} {rest : List Oper} {o : Oper} {a : Act} {w : World} {Q : Exit → Act → World → Prop} {d : Cf} (hg : o.guard = none) (parts : Array (Nat × Operand)) (ho : o.op = .build 26 parts)
    {l : List (Nat × Value)} (hb : BT l d) (hl : (parts.map fun (i, x) => (i, a.eval x)).toList = l) (h : wpList Try.prog ops Q rest (a.put o.dst (.agg (cg d))) w) : wpList Try.prog ops Q (o :: rest) a w :=
  wpList_build hg 26 parts ho (by rw [hl, hb.h]; rfl) (by rw [hl, hb.h]; exact h)
theorem wpList_load26L {ops : Array Oper} {rest : List Oper} {o : Oper} {a : Act} {w : World} {Q : Exit → Act → World → Prop} {b : Nat} {c : Cf} (hg : o.guard = none) (x : Operand) (ho : o.op = .load 26 x)
    (hx : a.eval x = .pointer (some ⟨b, 0, none⟩)) (h0 : CB w b c) (h : wpList Try.prog ops Q rest (a.put o.dst (.agg (cg c))) w) : wpList Try.prog ops Q (o :: rest) a w := wpList_load26 h0 hg x ho hx h
theorem wpList_store26L {ops : Array Oper} {rest : List Oper} {o : Oper} {a : Act} {w : World} {Q : Exit → Act → World → Prop} {b : Nat} {c d : Cf} (hg : o.guard = none) (x y : Operand) (ho : o.op = .store 26 x y)
    (hx : a.eval x = .pointer (some ⟨b, 0, none⟩)) (hy : a.eval y = .agg (cg d)) (h0 : CB w b c) (h : ∀ w', CB w' b d → Chg [b] w w' → wpList Try.prog ops Q rest (a.put o.dst undef) w') : wpList Try.prog ops Q (o :: rest) a w := wpList_store26 h0 hg x y ho hx hy h
def leastC0 : Cf := fun i => if i = 0 then 1 else if i = 1 then 1 else 0
def leastC : Cf := fun i => if i = 18 then 4 else leastC0 i
theorem built_least : BT [(0, .int .i64 1), (1, .int .i64 1)] leastC0 := ⟨by kernel_rfl⟩
theorem least_may : MayP leastC where
  n1 := by decide
  n8 := by decide
  p1 := by decide
  p16 := by decide
  s0 := by decide
  s1 := by decide
  home := by decide
  home0 := by decide
  fr := by decide
  fr0 := by decide
  ds0 := fun i k hi hk => (by decide : ∀ i : Nat, i < 8 → ∀ k : Nat, k < 8 → leastC 0 ≤ (i : Int) ∨ leastC 0 ≤ (k : Int) ∨ i = k → leastC (26 + i * 8 + k) = 0) i hi k hk
  ds1 := fun i k hi hk => fun h1 h2 h3 => (by decide : ∀ i : Nat, i < 8 → ∀ k : Nat, k < 8 → ((i : Int) < leastC 0 ∧ (k : Int) < leastC 0 ∧ ¬ i = k) → (1 ≤ leastC (26 + i * 8 + k) ∧ leastC (26 + i * 8 + k) ≤ 255 ∧ leastC (26 + i * 8 + k) = leastC (26 + k * 8 + i))) i hi k hk ⟨h1, h2, h3⟩
  mi := by decide
  lo := by decide
  hi := by decide
theorem least_tot : totV leastC = 4 := by
  unfold totV
  rw [if_pos (mayB_true least_may)]
  decide
set_option maxHeartbeats 1000000 in
theorem least_any (w : World) : Calls Try.prog 39 #[] w fun e w' => e = .returned (.agg (cg leastC)) ∧ Chg [] w w' := by
  have HR : Hid (CB ((w.alloc (.cells (cg (fun _ => 0)) 26)).alloc (.cells (cg (fun _ => 0)) 26)) w.heap.size (fun _ => 0)) := hide ((Blk.new w 26 _).alloc _)
  have HB : Hid (CB ((w.alloc (.cells (cg (fun _ => 0)) 26)).alloc (.cells (cg (fun _ => 0)) 26)) (w.heap.size + 1) (fun _ => 0)) := hide (by
    have := Blk.new (w.alloc (.cells (cg (fun _ => 0)) 26)) 26 (cg (fun _ => 0))
    rwa [World.size_alloc] at this)
  have HC : Hid (Chg [] w ((w.alloc (.cells (cg (fun _ => 0)) 26)).alloc (.cells (cg (fun _ => 0)) 26))) := hide (((Chg.refl [] w).alloc _).alloc _)
  obtain ⟨D0, hD0⟩ : ∃ D0, D0 = leastC0 := ⟨_, rfl⟩
  have HT := hide built_least
  rw [← hD0] at HT
  have HD0 := hide hD0
  obtain ⟨D, hD⟩ : ∃ D, D = leastC := ⟨_, rfl⟩
  rw [← hD]
  have HD := hide hD
  clear hD0 hD
  go_enter Try.func39, Try.ntmps39
  go_wp2_with (first | (refine wpList_alloc26 rfl rfl ?_; try simp only [World.size_alloc]) | (refine wpList_build26 rfl _ rfl HT.out ?_ ?_; (focus (simp [Act.eval]; done))) | (refine wpList_store26L (b := w.heap.size + 1) (c := fun _ => 0) rfl _ _ rfl rfl rfl ?_ ?_; (focus exact HB.out); intro W5 h5 hc5; have q18 := CB.get h5 (i := 18) (by omega); have f18 := Blk.frozen h5 18; have H5 := hide h5; have HC5 := hide hc5; have HR5 := hide (HR.out.chg hc5 (by simp)); have hl5 : w.heap.size + 1 < W5.heap.size := h5.lt; clear h5 hc5) | (refine wpList_load26L (b := w.heap.size + 1) (c := D) rfl _ rfl rfl ?_ ?_; (focus (rw [HD.out]; have := CB.set H5.out 18 4; rw [HD0.out] at this; exact this))) | (refine wpList_store26L (b := w.heap.size) (c := fun _ => 0) rfl _ _ rfl rfl rfl ?_ ?_; (focus exact (Blk.far HR5.out (by simp) _)); intro W6 h6 hc6))
  refine bodyPost_ret (v := .agg (cg D)) (results_cell_row (p := 0) (ty := 26) rfl _ _ w.heap.size 26 _ (0, 0) _ rfl h6 Try.underlying26 rfl info26') rfl ⟨rfl, ?_⟩
  have c9 := HC5.out.setCell (p := ⟨w.heap.size + 1, 18, none⟩) (.inl (by simp)) (.int .i64 4)
  exact (HC.out.trans c9 (fun x hx => .inr (by obtain rfl := List.mem_singleton.1 hx; omega))).trans hc6 (fun x hx => .inr (by obtain rfl := List.mem_singleton.1 hx; omega))
/-- bytes, as a string -/
def strB (l : List Nat) : ByteArray := ⟨(l.map UInt8.ofNat).toArray⟩
theorem run_str {w : World} {v : Value} {l : List Nat} (h : RB w v l) (h8 : ∀ x ∈ l, x < 256) : (convert 27 9 v).run Try.prog w = .ok (.string (strB l)) w := by
  obtain ⟨A, c, rfl⟩ := RE.form h
  rcases Nat.eq_zero_or_pos l.length with h0 | h0
  · obtain rfl : l = [] := List.eq_nil_of_length_eq_zero h0
    rw [run_convert_bytes_string w 27 9 5 A _ c Try.underlying27 Try.underlying5 Try.underlying9]
    cases A with
    | none => simp [Conv.bytesToString, strB]; rfl
    | some a =>
      have := run_bytesToString (P := Try.prog) w a 0 c [] (by rfl)
      have e : strB [] = ByteArray.empty := rfl
      rw [e]
      simpa using this
  · obtain ⟨g, off, rfl⟩ := RE.addr h h0
    have hl : (l.map UInt8.ofNat).length = l.length := by simp
    rw [← hl]
    refine run_convert_bytes_back w 27 9 5 ⟨g, off, none⟩ c (l.map UInt8.ofNat) Try.underlying27 Try.underlying5 Try.underlying9 fun j hj => ?_
    rw [hl] at hj
    have := RE.cell ucl_len h hj (j := 0) (by omega) rfl
    rw [Addr.add_lit]
    rw [Nat.mul_one, Nat.add_zero] at this
    rw [this, List.getElem_map]
    congr 2
    have h2 := h8 _ (List.getElem_mem hj)
    simp [Nat.mod_eq_of_lt h2]
theorem paE_w3 : paE 4 0 254 3 = 2 := by decide
set_option maxRecDepth 20000 in
set_option maxHeartbeats 4000000 in
theorem known03_any (w : World) : Calls Try.prog 13 #[] w fun e w' => e = .returned (.bool true) ∧ Chg [] w w' := by
  have HL := hide least_any
  have HN := hide (show ∀ W, Calls Try.prog 11 #[.agg (cg leastC)] W fun e w' => (∃ a gb gm : Nat, e = .returned (.tuple #[.pointer (some ⟨a, 0, none⟩), .int .i64 0]) ∧ FM w' a gb gm leastC 4 (List.replicate 1024 0) (List.replicate 4 fMk) ∧ W.heap.size ≤ a ∧ W.heap.size ≤ gb ∧ W.heap.size ≤ gm) ∧ Chg [] W w' from fun W =>
    (New_any leastC W).mono fun e w' ⟨h, hc⟩ => by
      rcases h with ⟨h, _⟩ | ⟨_, a, gb, gm, n, he, hn, hf, h1, h2, h3⟩
      · rw [mayB_true least_may] at h; cases h
      · rw [least_tot] at hn
        obtain rfl : n = 4 := by omega
        exact ⟨⟨a, gb, gm, he, hf, h1, h2, h3⟩, hc⟩)
  have hw2 : wrB 4 (List.replicate 1024 0) 0 254 [1, 2, 3] = List.replicate 1024 0 := by unfold wrB; rw [if_neg (by decide)]
  have hw3 : wrB 4 (List.replicate 1024 0) 0 254 [1, 2] = splice (List.replicate 1024 0) 254 [1, 2] := by unfold wrB; rw [if_pos (by decide)]; rfl
  have hcut : cut (splice (List.replicate 1024 0) 254 [1, 2]) 0 253 3 = [0, 1, 2] := by
    unfold cut splice
    simp [List.drop_append, List.take_append, List.drop_replicate, List.take_replicate]
  have HW1 := hide (show ∀ W a gb gm y, FM W a gb gm leastC 4 (List.replicate 1024 0) (List.replicate 4 fMk) → RB W y [1, 2, 3] → Calls Try.prog 12 #[.pointer (some ⟨a, 0, none⟩), .int .i64 0, .int .i64 254, y] W fun e w' => e = .returned (.int .i64 2) ∧ FM w' a gb gm leastC 4 (List.replicate 1024 0) (List.replicate 4 fMk) ∧ Chg [gb] W w' from fun W a gb gm y h hy =>
    (Write_any h 0 254 hy (by simp) (by simp)).mono fun e w' ⟨h1, h2, h3⟩ => ⟨h1, by rw [hw2] at h2; exact h2, h3⟩)
  have HW2 := hide (show ∀ W a gb gm y, FM W a gb gm leastC 4 (List.replicate 1024 0) (List.replicate 4 fMk) → RB W y [1, 2] → Calls Try.prog 12 #[.pointer (some ⟨a, 0, none⟩), .int .i64 0, .int .i64 254, y] W fun e w' => e = .returned (.int .i64 0) ∧ FM w' a gb gm leastC 4 (splice (List.replicate 1024 0) 254 [1, 2]) (List.replicate 4 fMk) ∧ Chg [gb] W w' from fun W a gb gm y h hy =>
    (Write_any h 0 254 hy (by simp) (by simp)).mono fun e w' ⟨h1, h2, h3⟩ => ⟨h1, by rw [hw3] at h2; exact h2, h3⟩)
  have HRD := hide (show ∀ W a gb gm, FM W a gb gm leastC 4 (splice (List.replicate 1024 0) 254 [1, 2]) (List.replicate 4 fMk) → Calls Try.prog 14 #[.pointer (some ⟨a, 0, none⟩), .int .i64 0, .int .i64 253, .int .i64 3] W fun e w' => (∃ g off cap, e = .returned (.tuple #[.slice (some ⟨g, off, none⟩) 3 cap, .int .i64 0]) ∧ SB w' (.slice (some ⟨g, off, none⟩) 3 cap) [0, 1, 2]) ∧ Chg [] W w' from fun W a gb gm h =>
    (Read_any h 0 253 3 (by omega)).mono fun e w' ⟨v, he, hv, hc⟩ => by
      rcases hv with ⟨h1, _⟩ | ⟨_, A, c, rfl, hs, _⟩
      · exact absurd (by decide) h1
      · have e1 : cut (splice (List.replicate 1024 0) 254 [1, 2]) (0 : Int).toNat (253 : Int).toNat (3 : Int).toNat = [0, 1, 2] := hcut
        rw [e1] at hs he
        obtain ⟨g, off, rfl⟩ := SE.addr hs (by simp)
        exact ⟨⟨g, off, c, he, hs⟩, hc⟩)
  have HCT := hide (show ∀ W a gb gm B, FM W a gb gm leastC 4 B (List.replicate 4 fMk) → Calls Try.prog 18 #[.pointer (some ⟨a, 0, none⟩), .int .i64 0, .int .u8 1] W fun e w' => e = .returned (.int .i64 4) ∧ Chg [] W w' from fun W a gb gm B h =>
    (Count_in h (k := 0) (by decide) (r := 1) (by omega)).mono fun e w' ⟨h1, h2⟩ => ⟨h1, h2⟩)
  obtain ⟨D, hD⟩ : ∃ D, D = leastC := ⟨_, rfl⟩
  rw [← hD] at HL HN HW1 HW2 HRD HCT
  clear hw2 hw3 hcut hD
  obtain ⟨B0, hB0⟩ : ∃ B0, B0 = List.replicate 1024 0 := ⟨_, rfl⟩
  rw [← hB0] at HN HW1 HW2 HRD
  obtain ⟨M0, hM0⟩ : ∃ M0, M0 = List.replicate 4 fMk := ⟨_, rfl⟩
  rw [← hM0] at HN HW1 HW2 HRD HCT
  obtain ⟨B1, hB1⟩ : ∃ B1, B1 = splice B0 254 [1, 2] := ⟨_, rfl⟩
  rw [← hB1] at HW2 HRD
  clear hB0 hM0 hB1
  go_enter Try.func13, Try.ntmps13
  go_wp2_with fail
  refine (HL.out _).mono ?_
  rintro e W1 ⟨rfl, hc1⟩
  go_wp2_with fail
  refine (HN.out _).mono ?_
  rintro e W2 ⟨⟨a, gb, gm, rfl, hf, ha, hb, hm⟩, hc2⟩
  have HF := hide hf
  have HBB := hide (show w.heap.size ≤ gb from Nat.le_trans hc1.size hb)
  have HC2 := hide (hc1.stay hc2)
  clear hf ha hb hm hc1 hc2
  go_wp2_with fail
  refine (HW1.out _ _ _ _ _ (HF.out.stay ((Chg.refl [] W2).alloc _)) (Rd_new W2 5 1 3 (fc ucl [1, 2, 3]) rfl)).mono ?_
  rintro e W3 ⟨rfl, hf3, hc3⟩
  have HF3 := hide hf3
  have HC3 := hide ((HC2.out.alloc (.cells #[.int .u8 1, .int .u8 2, .int .u8 3] 5)).trans hc3 (fun x hx => .inr (by obtain rfl := List.mem_singleton.1 hx; exact HBB.out)))
  clear hf3 hc3 HF HC2
  go_wp2_with fail
  refine (HW2.out _ _ _ _ _ (HF3.out.stay ((Chg.refl [] W3).alloc _)) (Rd_new W3 5 1 2 (fc ucl [1, 2]) rfl)).mono ?_
  rintro e W4 ⟨rfl, hf4, hc4⟩
  have HF4 := hide hf4
  have HC4 := hide ((HC3.out.alloc (.cells #[.int .u8 1, .int .u8 2] 5)).trans hc4 (fun x hx => .inr (by obtain rfl := List.mem_singleton.1 hx; exact HBB.out)))
  clear hf4 hc4 HF3 HC3
  go_wp2_with fail
  refine (HRD.out _ _ _ _ HF4.out).mono ?_
  rintro e W5 ⟨⟨g, off, cap, rfl, hs5⟩, hc5⟩
  have hstr := run_str hs5.re (by simp)
  rw [show strB [0, 1, 2] = ⟨#[0, 1, 2]⟩ from rfl] at hstr
  have HF5 := hide (HF4.out.stay hc5)
  have HC5 := hide (HC4.out.stay hc5)
  have HFR := hide (Frames_any HF5.out)
  clear hs5 hc5 HF4 HC4
  go_wp2_with fail
  refine HFR.out.mono ?_
  rintro e w' ⟨rfl, rfl⟩
  go_wp2_with fail
  refine (HCT.out _ _ _ _ _ HF5.out).mono ?_
  rintro e W6 ⟨rfl, hc6⟩
  have HC6 := hide (HC5.out.stay hc6)
  clear hc6
  go_wp2_with fail
  go_ret
  exact ⟨rfl, HC6.out⟩
end Go.Proofs.Ytblkfikcfgocgaa
