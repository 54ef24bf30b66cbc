/- A call in memory of its own. -/
import Derived.Test.YtinlpjgjjplceaaDoorCaK
import Derived.Deep.CutRange
import Derived.Deep.CutBlock
namespace Go.Proofs.YtinlpjgjjplceaaDoor
open Go Go.RowKit

def CopyR (w w' : World) (x : Cl) (e : Ending) : Prop := ∃ A n c, e = .returned (.agg (clc x (.slice A n c))) ∧ SB w' (.slice A n c) x.l ∧ ∀ k ∈ own (.slice A n c), w.heap.size ≤ k
set_option maxRecDepth 20000 in
set_option maxHeartbeats 8000000 in
theorem copied_any {w : World} {x : Cl} {v : Value} (hv : RB w v x.l) (hlen : x.l.length ≤ 1000) :
    Calls Tryd.prog 12 #[.agg (clc x v)] w fun e w' => CopyR w w' x e ∧ Chg [] w w' := by
  obtain ⟨A0, c0, rfl⟩ := RE.form hv
  obtain ⟨W2, hW2⟩ : ∃ W2, W2 = (w.alloc (.cells (clc x (.slice A0 x.l.length c0)) 34)).alloc (.cells (clc zCl zV) 34) := ⟨_, rfl⟩
  have hs2 : W2.heap.size = w.heap.size + 1 + 1 := by rw [hW2]; simp
  have hb1 : KB W2 w.heap.size x (.slice A0 x.l.length c0) := by rw [hW2]; exact (Blk.new w 34 _).alloc _
  have hb2 : KB W2 (w.heap.size + 1) zCl zV := by
    have := Blk.new (w.alloc (.cells (clc x (.slice A0 x.l.length c0)) 34)) 34 (clc zCl zV)
    rw [World.size_alloc] at this
    rw [hW2]
    exact this
  have hc2 : Chg [] w W2 := by rw [hW2]; exact ((Chg.refl [] w).alloc _).alloc _
  have HV := hide (RE.stay hv (hc2.alloc (.cells #[] 5)))
  have HB := hide (And.intro hb1 hb2)
  have HC := hide hc2
  have HW2 := hide hW2
  have HS2 := hide hs2
  have HLN := hide (show ([] : List Nat).length + x.l.length ≤ 1000000 by simp; omega)
  obtain ⟨-, -, -, -, -, -, -, -, -, -, -, q11, ql, qf⟩ := KB.cells hb1
  clear hv hb1 hb2 hc2 hW2 hs2 hlen
  go_enter Tryd.func12, Tryd.ntmps12
  go_upto_region 1 with (first | (refine wpList_box34 rfl _ rfl rfl ?_; try simp only [World.size_alloc]) | (refine wpList_alloc34 rfl rfl ?_; try simp only [World.size_alloc]; try rw [← HW2.out]))
  go_upto_region 2 with (at_builtin; refine wpList_append_b rfl _ _ rfl (.slice (some ⟨W2.heap.size, 0, none⟩) 0 0) _ rfl rfl (l := []) (m := x.l) (SB_none W2) HV.out HLN.out ?_; intro A9 n9 c9 W9 hn9 hs9 hc9 hg9; have HC9 := hide (show Chg [] W2 W9 from ((Chg.refl [] W2).alloc _).trans hc9 (fun k hk => .inr (by simp [own, Value.ownBlock] at hk; omega))); have HB9 := hide (show KB W9 w.heap.size x (.slice A0 x.l.length c0) ∧ KB W9 (w.heap.size + 1) zCl zV from ⟨KB.stay HB.out.1 HC9.out, KB.stay HB.out.2 HC9.out⟩); clear q11 ql qf hc9; obtain ⟨-, -, -, -, -, -, -, -, -, -, -, q11, ql, qf⟩ := KB.cells HB9.out.1)
  rw [List.nil_append] at hs9
  have hs5 : Chg [w.heap.size] W9 (W9.setCell ⟨w.heap.size, 11, none⟩ (.slice A9 n9 c9)) := (Chg.refl [w.heap.size] W9).setCell (p := ⟨w.heap.size, 11, none⟩) (.inl (by simp)) _
  have k1 : KB (W9.setCell ⟨w.heap.size, 11, none⟩ (.slice A9 n9 c9)) w.heap.size x (.slice A9 n9 c9) := KB.put HB9.out.1 11 _ rfl
  have k2 : KB (W9.setCell ⟨w.heap.size, 11, none⟩ (.slice A9 n9 c9)) (w.heap.size + 1) zCl zV := Blk.chg HB9.out.2 hs5 (by simp only [List.mem_singleton]; omega)
  have ks : SB (W9.setCell ⟨w.heap.size, 11, none⟩ (.slice A9 n9 c9)) (.slice A9 n9 c9) x.l := hs9.chg hs5 (fun k hk hk' => SB.not_call hs9 HB9.out.1 (by obtain rfl := List.mem_singleton.1 hk'; exact hk))
  have HCS := hide ((HC.out.trans HC9.out (fun y hy => absurd hy List.not_mem_nil)).trans hs5 (fun y hy => .inr (by obtain rfl := List.mem_singleton.1 hy; exact Nat.le_refl _)))
  have HKS := hide ks
  have HGR := hide (show ∀ k ∈ own (.slice A9 n9 c9), w.heap.size ≤ k from fun k hk => (hg9 k hk).elim (fun h => by simp [own, Value.ownBlock] at h; have := HS2.out; omega) (fun h => by have := HS2.out; simp at h; omega))
  clear hs9 hg9 hs5 q11 ql qf ks
  generalize W9.setCell ⟨w.heap.size, 11, none⟩ (.slice A9 n9 c9) = W5 at k1 k2 HKS HCS ⊢
  have HK1 := hide k1
  have HK2 := hide k2
  clear k1 k2
  go_wp2_with (first | (refine wpList_load34 rfl _ rfl rfl HK1.out ?_) | (refine wpList_store34 (b := w.heap.size + 1) (y := x) (u := .slice A9 n9 c9) rfl _ _ rfl rfl rfl rfl HK2.out ?_; intro W7 h7 hc7))
  refine bodyPost_ret (v := .agg (clc x (.slice A9 n9 c9))) (results_cell_row (p := 2) (ty := 34) rfl _ _ (w.heap.size + 1) 34 _ (0, 0) _ rfl h7 Tryd.underlying34 rfl info34) rfl ⟨⟨_, _, _, rfl, ?_, HGR.out⟩, ?_⟩
  · exact HKS.out.chg hc7 (fun k hk hk' => SB.not_call HKS.out HK2.out (by obtain rfl := List.mem_singleton.1 hk'; exact hk))
  · exact HCS.out.trans hc7 (fun y hy => .inr (by obtain rfl := List.mem_singleton.1 hy; omega))
end Go.Proofs.YtinlpjgjjplceaaDoor
