/- The law's least machine; what is known of tables. -/
import Derived.Test.YtblkfikcfgocgaaTbF
namespace Go.Proofs.Ytblkfikcfgocgaa
open Go Go.RowKit

set_option maxHeartbeats 1000000 in
theorem least14_any (w : World) : Calls Try.prog 28 #[] w fun e w' => e = .returned (.agg (cg leastC)) ∧ Chg [] w w' := by
  have HR : Hid (CB ((w.alloc (.cells (cg (fun _ => 0)) 26)).alloc (.cells (cg (fun _ => 0)) 26)) w.heap.size (fun _ => 0)) := hide ((Blk.new w 26 _).alloc _)
  have HB : Hid (CB ((w.alloc (.cells (cg (fun _ => 0)) 26)).alloc (.cells (cg (fun _ => 0)) 26)) (w.heap.size + 1) (fun _ => 0)) := hide (by
    have := Blk.new (w.alloc (.cells (cg (fun _ => 0)) 26)) 26 (cg (fun _ => 0))
    rwa [World.size_alloc] at this)
  have HC : Hid (Chg [] w ((w.alloc (.cells (cg (fun _ => 0)) 26)).alloc (.cells (cg (fun _ => 0)) 26))) := hide (((Chg.refl [] w).alloc _).alloc _)
  obtain ⟨D0, hD0⟩ : ∃ D0, D0 = leastC0 := ⟨_, rfl⟩
  have HT := hide built_least
  rw [← hD0] at HT
  have HD0 := hide hD0
  obtain ⟨D, hD⟩ : ∃ D, D = leastC := ⟨_, rfl⟩
  rw [← hD]
  have HD := hide hD
  clear hD0 hD
  go_enter Try.func28, Try.ntmps28
  go_wp2_with (first | (refine wpList_alloc26 rfl rfl ?_; try simp only [World.size_alloc]) | (refine wpList_build26 rfl _ rfl HT.out ?_ ?_; (focus (simp [Act.eval]; done))) | (refine wpList_store26L (b := w.heap.size + 1) (c := fun _ => 0) rfl _ _ rfl rfl rfl ?_ ?_; (focus exact HB.out); intro W5 h5 hc5; have q18 := CB.get h5 (i := 18) (by omega); have f18 := Blk.frozen h5 18; have H5 := hide h5; have HC5 := hide hc5; have HR5 := hide (HR.out.chg hc5 (by simp)); have hl5 : w.heap.size + 1 < W5.heap.size := h5.lt; clear h5 hc5) | (refine wpList_load26L (b := w.heap.size + 1) (c := D) rfl _ rfl rfl ?_ ?_; (focus (rw [HD.out]; have := CB.set H5.out 18 4; rw [HD0.out] at this; exact this))) | (refine wpList_store26L (b := w.heap.size) (c := fun _ => 0) rfl _ _ rfl rfl rfl ?_ ?_; (focus exact (Blk.far HR5.out (by simp) _)); intro W6 h6 hc6))
  refine bodyPost_ret (v := .agg (cg D)) (results_cell_row (p := 0) (ty := 26) rfl _ _ w.heap.size 26 _ (0, 0) _ rfl h6 Try.underlying26 rfl info26') rfl ⟨rfl, ?_⟩
  have c9 := HC5.out.setCell (p := ⟨w.heap.size + 1, 18, none⟩) (.inl (by simp)) (.int .i64 4)
  exact (HC.out.trans c9 (fun x hx => .inr (by obtain rfl := List.mem_singleton.1 hx; omega))).trans hc6 (fun x hx => .inr (by obtain rfl := List.mem_singleton.1 hx; omega))
/-- no word -/
def V0 : Nat → Nat → Nat := fun _ _ => 0
theorem wordN_zero (m f i : Nat) : wordN (List.replicate m 0) f i = 0 := by
  unfold wordN
  have key : ∀ k, leN (List.replicate k 0) = 0 := by
    intro k
    induction k with
    | zero => rfl
    | succ k ih => rw [List.replicate_succ]; unfold leN; rw [ih]
  rw [List.drop_replicate, List.take_replicate, key]
theorem New14 (W : World) : Calls Try.prog 11 #[.agg (cg leastC)] W fun e w' => (∃ a gb gm : Nat, e = .returned (.tuple #[.pointer (some ⟨a, 0, none⟩), .int .i64 0]) ∧ TM w' a gb gm leastC 4 V0 (List.replicate 4 fMk) ∧ W.heap.size ≤ gb) ∧ Chg [] W w' :=
  (New_any leastC W).mono fun e w' ⟨h, hc⟩ => by
    rcases h with ⟨h, _⟩ | ⟨_, a, gb, gm, n, he, hn, hf, h1, h2, h3⟩
    · rw [mayB_true least_may] at h; cases h
    · rw [least_tot] at hn
      obtain rfl : n = 4 := by omega
      exact ⟨⟨a, gb, gm, he, ⟨_, hf, fun f i _ _ => wordN_zero ..⟩, h2⟩, hc⟩
set_option maxRecDepth 20000 in
set_option maxHeartbeats 4000000 in
theorem known14_any (w : World) : Calls Try.prog 27 #[] w fun e w' => e = .returned (.bool true) ∧ Chg [] w w' := by
  have HL := hide least14_any
  have HN := hide New14
  have HW := hide (fun W => Word_t W 1 5)
  have HE := hide (fun W => Entry_t W 4 (by omega))
  have HS1 := hide (fun W a gb gm (h : TM W a gb gm leastC 4 V0 (List.replicate 4 fMk)) => Set_t h 0 40 1 3)
  have HSL := hide (fun W a gb gm (h : TM W a gb gm leastC 4 V0 (List.replicate 4 fMk)) => SetLeaf_t h 0 40 2)
  have HS2 := hide (fun W a gb gm (h : TM W a gb gm leastC 4 (slV 4 V0 0 40 2) (List.replicate 4 fMk)) => Set_t h 0 40 1 3)
  have HG := hide (fun W a gb gm (h : TM W a gb gm leastC 4 (stV 4 (slV 4 V0 0 40 2) 0 40 1 3) (List.replicate 4 fMk)) => Get_t h 0 40)
  rw [show wnum 1 5 = 21 by decide, show wE 1 5 = 0 by decide] at HW
  rw [show eK 4 = 0 by decide, show eN 4 = 0 by decide, show eE 4 = 5 by decide] at HE
  have s1 : stE 4 V0 0 40 1 3 = 7 := by decide
  have s2 : stV 4 V0 0 40 1 3 = V0 := by unfold stV; rw [s1]; rfl
  have s3 : slE 4 0 40 2 = 0 := by decide
  have s4 : stE 4 (slV 4 V0 0 40 2) 0 40 1 3 = 0 := by decide
  have s5 : gtE 4 (stV 4 (slV 4 V0 0 40 2) 0 40 1 3) 0 40 = 0 := by decide
  have s6 : gtW 4 (stV 4 (slV 4 V0 0 40 2) 0 40 1 3) 0 40 = 13 := by decide
  rw [s1, s2] at HS1
  rw [s3] at HSL
  rw [s4] at HS2
  rw [s5, s6, show eK 13 = 1 by decide, show eN 13 = 3 by decide] at HG
  generalize stV 4 (slV 4 V0 0 40 2) 0 40 1 3 = V2 at HS2 HG
  generalize slV 4 V0 0 40 2 = V1 at HSL HS2
  generalize V0 = V at HN HS1 HSL
  obtain ⟨D, hD⟩ : ∃ D, D = leastC := ⟨_, rfl⟩
  rw [← hD] at HL HN HS1 HSL HS2 HG
  obtain ⟨M0, hM0⟩ : ∃ M0, M0 = List.replicate 4 fMk := ⟨_, rfl⟩
  rw [← hM0] at HN HS1 HSL HS2 HG
  clear hD hM0 s1 s2 s3 s4 s5 s6
  go_enter Try.func27, Try.ntmps27
  go_wp2_with fail
  refine (HL.out _).mono ?_
  rintro e W1 ⟨rfl, hc1⟩
  go_wp2_with fail
  refine (HN.out _).mono ?_
  rintro e W2 ⟨⟨a, gb, gm, rfl, hf, hb⟩, hc2⟩
  have HF := hide hf
  have HBB := hide (show w.heap.size ≤ gb from Nat.le_trans hc1.size hb)
  have HC2 := hide (hc1.stay hc2)
  clear hf hb hc1 hc2
  go_wp2_with fail
  refine (HW.out _).mono ?_
  rintro e W3 ⟨rfl, hc3⟩
  have HC3 := hide (HC2.out.stay hc3)
  have HF3 := hide (HF.out.stay hc3)
  clear hc3 HC2 HF
  go_wp2_with fail
  refine (HE.out _).mono ?_
  rintro e W4 ⟨rfl, hc4⟩
  have HC4 := hide ((HC3.out.stay hc4).alloc (.cells #[.int .u8 (0 : Nat), .int .i64 (0 : Nat)] 59))
  have HF4 := hide ((HF3.out.stay hc4).stay ((Chg.refl [] W4).alloc (.cells #[.int .u8 (0 : Nat), .int .i64 (0 : Nat)] 59)))
  clear hc4 HC3 HF3
  go_wp2_with fail
  refine (HS1.out _ _ _ _ HF4.out).mono ?_
  rintro e W5 ⟨rfl, hf5, hc5⟩
  have HF5 := hide hf5
  have HC5 := hide (HC4.out.trans hc5 (fun x hx => .inr (by obtain rfl := List.mem_singleton.1 hx; exact HBB.out)))
  clear hc5 hf5 HC4 HF4
  go_wp2_with fail
  refine (HSL.out _ _ _ _ HF5.out).mono ?_
  rintro e W6 ⟨rfl, hf6, hc6⟩
  have HF6 := hide hf6
  have HC6 := hide (HC5.out.trans hc6 (fun x hx => .inr (by obtain rfl := List.mem_singleton.1 hx; exact HBB.out)))
  clear hc6 hf6 HC5 HF5
  go_wp2_with fail
  refine (HS2.out _ _ _ _ HF6.out).mono ?_
  rintro e W7 ⟨rfl, hf7, hc7⟩
  have HF7 := hide hf7
  have HC7 := hide (HC6.out.trans hc7 (fun x hx => .inr (by obtain rfl := List.mem_singleton.1 hx; exact HBB.out)))
  clear hc7 hf7 HC6 HF6
  go_wp2_with fail
  refine (HG.out _ _ _ _ HF7.out).mono ?_
  rintro e W8 ⟨rfl, hc8⟩
  have HC8 := hide ((HC7.out.stay hc8).alloc (.cells #[.int .u8 (1 : Nat), .int .i64 (3 : Nat)] 59))
  clear hc8 HC7
  go_wp2_with fail
  go_ret
  exact ⟨rfl, HC8.out⟩
end Go.Proofs.Ytblkfikcfgocgaa
