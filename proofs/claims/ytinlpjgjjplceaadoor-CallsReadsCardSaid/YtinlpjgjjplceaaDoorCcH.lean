/- The document's form of a result. -/
import Derived.Test.YtinlpjgjjplceaaDoorCcF
namespace Go.Proofs.YtinlpjgjjplceaaDoor
open Go Go.RowKit

set_option maxRecDepth 20000 in
set_option maxHeartbeats 40000000 in
theorem rRsBytes_any {w : World} {x : Rs} {v : Value} (hx : x.Ok) (hlen : x.l.length ≤ 100000) (hv : RB w v x.l) :
    Calls Tryd.prog 29 #[.agg (rsc x v)] w fun e w' => NewB w w' (encRs x) e ∧ Chg [] w w' := by
  obtain ⟨A0, c0, rfl⟩ := RE.form hv
  obtain ⟨W2, hW2⟩ : ∃ W2, W2 = w.alloc (.cells (rsc x (.slice A0 x.l.length c0)) 48) := ⟨_, rfl⟩
  have hb1 : XB W2 w.heap.size x (.slice A0 x.l.length c0) := by rw [hW2]; exact Blk.new w _ _
  have hc1 : Chg [] w W2 := by rw [hW2]; exact (Chg.refl [] w).alloc _
  have HB := hide hb1
  have HC := hide hc1
  have HW2 := hide hW2
  have HX := hide hx
  have HV := hide hv
  have HLN := hide hlen
  have w1 := wrap_u64_of x.e
  have w2 : IntKind.u64.wrap (x.l.length : Int) = (x.l.length : Int) := by rw [IntKind.wrap_u64]; omega
  clear hv hb1 hc1 hW2 hx hlen
  go_enter Tryd.func29, Tryd.ntmps29
  go_upto_region 1 with (first | (refine wpList_boxRs rfl _ rfl rfl ?_; try rw [← HW2.out]))
  obtain ⟨b1, hb1⟩ : ∃ b, b = w.heap.size := ⟨_, rfl⟩
  have HB1 := hide hb1
  rw [← HB1.out]
  rw [← HB1.out] at HB
  clear hb1
  have hS : XB W2.drew b1 x (.slice A0 x.l.length c0) := HB.out.drew
  obtain ⟨c1, c2, c3, cl, -⟩ := XB.cells hS
  refine wp_region_t [0,1,0,6,0,5,6,3,0] [none, none, none, none, none, none, none, none, none] (fun W => XB W b1 x (.slice A0 x.l.length c0)) (by kernel_rfl) (by kernel_rfl) (by kernel_rfl) ?_
  go_wp2_with (first | fail | (refine wpG_calc rfl (fun K hK => ?_)) | (refine wpG_skip ?_ ?_; (focus (simp [wantG]; done)); go_simp) | (refine wpG_take ?_ ?_; (focus (simp [wantG]; done))) | (refine wpG_pure (fun K hK => ?_); go_simp; refine hK _ _ ?_; clear hK K) | (refine wpG_deed (by decide) (fun K hK => ?_); go_simp) | (refine wpG_nil ?_))
  (refine wpG_keeps hS (fun K hK => ?_))
  go_simp
  refine (word_any W2.drew (wd64_lt x.e)).mono ?_
  rintro e W3 ⟨⟨A3, n3, k3, rfl, hs3, hf3⟩, hc3⟩
  have hS3 : XB W3 b1 x (.slice A0 x.l.length c0) := XB.stay hS hc3
  refine hK _ _ hS3 ?_
  clear hK K hS c1 c2 c3 cl
  have HC3 := hide (HC.out.drew.stay hc3)
  have HS3 := hide hs3
  have HF3 := hide (show ∀ k ∈ own (.slice A3 n3 k3), w.heap.size ≤ k from fun k hk => Nat.le_trans HC.out.size (hf3 k hk))
  clear hs3 hf3 hc3
  go_wp2_with (first | (refine wpG_hload 31 _ rfl rfl (fun w' hw' => load_int Tryd.underlying31 (XB.cells hw').2.1) hS3 ?_; go_simp) | (refine wpG_calc rfl (fun K hK => ?_)) | (refine wpG_skip ?_ ?_; (focus (simp [wantG]; done)); go_simp) | (refine wpG_take ?_ ?_; (focus (simp [wantG]; done))) | (refine wpG_pure (fun K hK => ?_); go_simp; refine hK _ _ ?_; clear hK K) | (refine wpG_deed (by decide) (fun K hK => ?_); go_simp) | (refine wpG_nil ?_))
  (refine wpG_keeps hS3 (fun K hK => ?_))
  go_simp
  refine (word_any W3 HX.out.v).mono ?_
  rintro e W4 ⟨⟨A4, n4, k4, rfl, hs4, hf4⟩, hc4⟩
  have hS4 : XB W4 b1 x (.slice A0 x.l.length c0) := XB.stay hS3 hc4
  refine hK _ _ hS4 ?_
  clear hK K hS3
  have HC4 := hide (HC3.out.stay hc4)
  have HS4 := hide (HS3.out.stay hc4)
  have HT4 := hide hs4
  have HL4 := hide (show (le8 (wd64 x.e)).length + (le8 x.v).length ≤ 1000000 by rw [le8_length, le8_length]; omega)
  clear hs4 hf4 hc4
  go_wp2_with (first | (refine wpG_deed (by decide) (fun K hK => ?_); refine wp_append_b _ _ rfl (.slice A3 n3 k3) (.slice A4 n4 k4) rfl rfl HS4.out HT4.out.re HL4.out ?_; intro A5 n5 k5 W5 hn5 hs5 hc5 hg5; refine hK _ _ ?_; clear hK K; have HB5 := hide (show XB W5 b1 x (.slice A0 x.l.length c0) from Blk.chg hS4 hc5 (SB.not_res HS4.out hS4)); obtain ⟨c1, c2, c3, cl, -⟩ := XB.cells HB5.out) | (refine wpG_calc rfl (fun K hK => ?_)) | (refine wpG_skip ?_ ?_; (focus (simp [wantG]; done)); go_simp) | (refine wpG_take ?_ ?_; (focus (simp [wantG]; done))) | (refine wpG_pure (fun K hK => ?_); go_simp; refine hK _ _ ?_; clear hK K) | (refine wpG_deed (by decide) (fun K hK => ?_); go_simp) | (refine wpG_nil ?_))
  have HC5 := hide (show Chg [] w W5 from HC4.out.trans hc5 (fun k hk => .inr (HF3.out k hk)))
  have HF5 := hide (show ∀ k ∈ own (.slice A5 n5 k5), w.heap.size ≤ k from fun k hk => (hg5 k hk).elim (HF3.out k) (fun h => Nat.le_trans HC4.out.size h))
  have HS5 := hide hs5
  clear hs5 hc5 hg5 hS4
  refine (word_any W5 (x := x.l.length) (by have := HLN.out; omega)).mono ?_
  rintro e W6 ⟨⟨A6, n6, k6, rfl, hs6, hf6⟩, hc6⟩
  have HC6 := hide (HC5.out.stay hc6)
  have HB6 := hide (XB.stay HB5.out hc6)
  have HS6 := hide (HS5.out.stay hc6)
  have HT6 := hide hs6
  have HL6 := hide (show (le8 (wd64 x.e) ++ le8 x.v).length + (le8 x.l.length).length ≤ 1000000 by rw [List.length_append, le8_length, le8_length, le8_length]; omega)
  clear hs6 hf6 hc6 c1 c2 c3 cl HB5 HS5 HC5
  go_upto_region 3 with (first | (at_builtin; refine wpList_append_b rfl _ _ rfl (.slice A5 n5 k5) (.slice A6 n6 k6) rfl rfl HS6.out HT6.out.re HL6.out ?_; intro A7 n7 c7 W7 hn7 hs7 hc7 hg7))
  have HC7 := hide (show Chg [] w W7 from HC6.out.trans hc7 (fun k hk => .inr (HF5.out k hk)))
  have HF7 := hide (show ∀ k ∈ own (.slice A7 n7 c7), w.heap.size ≤ k from fun k hk => (hg7 k hk).elim (HF5.out k) (fun h => Nat.le_trans HC6.out.size h))
  have HB7 := hide (show XB W7 b1 x (.slice A0 x.l.length c0) from Blk.chg HB6.out hc7 (SB.not_res HS6.out HB6.out))
  have HS7 := hide hs7
  have HV7 := hide (HV.out.stay HC7.out)
  have HL7 := hide (show (le8 (wd64 x.e) ++ le8 x.v ++ le8 x.l.length).length + x.l.length ≤ 1000000 by have := HLN.out; rw [List.length_append, List.length_append, le8_length, le8_length, le8_length]; omega)
  clear hs7 hc7 hg7
  obtain ⟨c1, c2, c3, cl, -⟩ := XB.cells HB7.out
  go_wp2_with (first | (at_builtin; refine wpList_append_b rfl _ _ rfl (.slice A7 n7 c7) (.slice A0 x.l.length c0) rfl rfl HS7.out HV7.out HL7.out ?_; intro A8 n8 c8 W8 hn8 hs8 hc8 hg8))
  go_ret
  exact ⟨⟨A8, n8, c8, rfl, hs8, fun k hk => (hg8 k hk).elim (HF7.out k) (fun h => Nat.le_trans HC7.out.size h)⟩, HC7.out.trans hc8 (fun k hk => .inr (HF7.out k hk))⟩
end Go.Proofs.YtinlpjgjjplceaaDoor
