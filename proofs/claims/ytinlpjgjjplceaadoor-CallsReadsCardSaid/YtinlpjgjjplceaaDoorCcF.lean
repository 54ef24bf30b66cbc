/- Results: their form. -/
import Derived.Test.YtinlpjgjjplceaaDoorCbD
import Derived.Test.YtinlpjgjjplceaaDoorCaH
import Derived.Deep.CutRange
import Derived.Deep.CutBlock
namespace Go.Proofs.YtinlpjgjjplceaaDoor
open Go Go.RowKit

theorem RW_three (w : World) (k m p : Nat) : RW (w.alloc (.cells #[.int .u64 (k : Nat), .int .u64 (m : Nat), .int .u64 (p : Nat)] 31)) (.slice (some ⟨w.heap.size, 0, none⟩) 3 3) [k, m, p] := Rd_new w 31 1 3 [.int .u64 k, .int .u64 m, .int .u64 p] rfl
theorem SB.not_res {w : World} {v u : Value} {l : List Nat} {b : Nat} {x : Rs} (h : SB w v l) (hb : XB w b x u) : b ∉ own v := fun hk => by
  obtain ⟨cur, hc⟩ := h.kind hk
  exact Blk.ne_ hb hc (by decide) rfl
def RsBytesR (w w' : World) (x : Rs) (e : Ending) : Prop := mayRs x = false ∧ e = .returned (.tuple #[.slice none 0 0, .int .i64 2]) ∨ mayRs x = true ∧ ∃ A n c, e = .returned (.tuple #[.slice A n c, .int .i64 0]) ∧ SB w' (.slice A n c) (encRs x) ∧ ∀ k ∈ own (.slice A n c), w.heap.size ≤ k
set_option maxRecDepth 20000 in
set_option maxHeartbeats 40000000 in
theorem RsBytes_any {w : World} {x : Rs} {v : Value} (hx : x.Ok) (hv : RB w v x.l) :
    Calls Tryd.prog 25 #[.agg (rsc x v)] w fun e w' => RsBytesR w w' x e ∧ Chg [] w w' := by
  obtain ⟨A0, c0, rfl⟩ := RE.form hv
  obtain ⟨W2, hW2⟩ : ∃ W2, W2 = w.alloc (.cells (rsc x (.slice A0 x.l.length c0)) 48) := ⟨_, rfl⟩
  have hb1 : XB W2 w.heap.size x (.slice A0 x.l.length c0) := by rw [hW2]; exact Blk.new w _ _
  have hc1 : Chg [] w W2 := by rw [hW2]; exact (Chg.refl [] w).alloc _
  have HM := hide (MayRs_any x (.slice A0 x.l.length c0) ⟨_, _, rfl⟩ W2)
  have HB := hide hb1
  have HC := hide hc1
  have HW2 := hide hW2
  have HX := hide hx
  have HV := hide hv
  clear hv hb1 hc1 hW2 hx
  unfold RsBytesR
  cases hm : mayRs x with
  | false =>
    rw [hm] at HM
    clear hm
    go_enter Tryd.func25, Tryd.ntmps25
    go_wp2_with (first | (refine wpList_boxRs rfl _ rfl rfl ?_; try rw [← HW2.out]) | (refine wpList_loadRs rfl _ rfl rfl HB.out ?_))
    refine HM.out.mono ?_
    rintro e W3 ⟨rfl, hc3⟩
    go_wp2_with fail
    go_ret2
    exact ⟨.inl ⟨by trivial, rfl⟩, HC.out.stay hc3⟩
  | true =>
    rw [hm] at HM
    have hl8 := (mayRs_parts hm).2
    clear hm
    have HL8 := hide hl8
    obtain ⟨b1, hb1⟩ : ∃ b, b = w.heap.size := ⟨_, rfl⟩
    have HB1 := hide hb1
    go_enter Tryd.func25, Tryd.ntmps25
    go_upto_region 1 with (first | (refine wpList_boxRs rfl _ rfl rfl ?_; try rw [← HW2.out]))
    rw [← HB1.out]
    rw [← HB1.out] at HB
    clear hb1 hl8
    go_wp2_with (first | (refine wpList_loadRs rfl _ rfl rfl HB.out ?_))
    refine HM.out.mono ?_
    rintro e W3 ⟨rfl, hc3⟩
    have HC3 := hide (HC.out.stay hc3)
    have HB3 := hide (XB.stay HB.out hc3)
    clear hc3
    go_upto_region 3 with (fail)
    have hS : XB W3.drew b1 x (.slice A0 x.l.length c0) := HB3.out.drew
    have HP := hide (put_new (w := W3.drew) (v := .slice none 0 0) (B := []) (SE.nil _ _ _ _) (RW_three W3.drew (wd64 x.e) x.v x.l.length) (fun n hn => by
      have h1 := wd64_lt x.e
      have h2 := HX.out.v
      have h3 := HL8.out
      simp only [List.mem_cons, List.not_mem_nil, or_false] at hn
      rcases hn with rfl | rfl | rfl <;> omega) (by simp))
    have w1 := wrap_u64_of x.e
    have w2 : IntKind.u64.wrap (x.l.length : Int) = (x.l.length : Int) := by rw [IntKind.wrap_u64]; have := HL8.out; omega
    obtain ⟨c1, c2, c3, cl, -⟩ := XB.cells hS
    refine wp_region_t [0,1,0,0,1,0,1,0,0,6,6,0,5,3,0,0] [none, none, none, none, none, none, none, none, none, none, none, none, none, none, none, none] (fun W => XB W b1 x (.slice A0 x.l.length c0)) (by kernel_rfl) (by kernel_rfl) (by kernel_rfl) ?_
    go_wp2_with (first | fail | (refine wpG_calc rfl (fun K hK => ?_)) | (refine wpG_skip ?_ ?_; (focus (simp [wantG]; done)); go_simp) | (refine wpG_take ?_ ?_; (focus (simp [wantG]; done))) | (refine wpG_pure (fun K hK => ?_); go_simp; refine hK _ _ ?_; clear hK K) | (refine wpG_deed (by decide) (fun K hK => ?_); go_simp) | (refine wpG_nil ?_))
    (refine wpG_keeps hS (fun K hK => ?_))
    go_simp
    have hS2 : XB (W3.drew.alloc (.cells #[.int .u64 (wd64 x.e : Nat), .int .u64 (x.v : Nat), .int .u64 (x.l.length : Nat)] 31)) b1 x (.slice A0 x.l.length c0) := Blk.alloc hS _
    refine hK _ _ hS2 ?_
    clear hK K
    (refine wpG_keeps hS2 (fun K hK => ?_))
    go_simp
    refine HP.out.mono ?_
    rintro e W8 ⟨A8, n8, k8, rfl, hs8, hc8, hg8⟩
    have hS3 : XB W8 b1 x (.slice A0 x.l.length c0) := Blk.chg hS hc8 (by simp [own, Value.ownBlock])
    refine hK _ _ hS3 ?_
    clear hK K hS hS2
    have HC8 := hide (show Chg [] w W8 from HC3.out.drew.trans hc8 (fun y hy => (own_nil hy).elim))
    have HG8 := hide (show ∀ k ∈ own (.slice A8 n8 k8), w.heap.size ≤ k from fun k hk => (hg8 k hk).elim (fun h => (own_nil h).elim) (fun h => Nat.le_trans HC3.out.size h))
    have HS8 := hide hs8
    have HVB := hide (HV.out.stay HC8.out)
    have HLB := hide (show ([] ++ [wd64 x.e, x.v, x.l.length].flatMap le8).length + x.l.length ≤ 1000000 from by
      have h2 := HL8.out
      rw [List.length_append, flat8]
      simp; omega)
    clear hs8 hc8 hg8 c1 c2 c3 cl
    go_wp2_with (first | (refine wpG_hload 32 _ rfl rfl (fun w' hw' => load_slice Tryd.underlying32 (XB.cells hw').2.2.1) hS3 ?_; go_simp) | (refine wpG_deed (by decide) (fun K hK => ?_); refine wp_append_b _ _ rfl (.slice A8 n8 k8) (.slice A0 x.l.length c0) rfl rfl HS8.out HVB.out HLB.out ?_; intro A9 n9 k9 W9 hn9 hs9 hc9 hg9; refine hK _ _ ?_; clear hK K) | (refine wpG_calc rfl (fun K hK => ?_)) | (refine wpG_skip ?_ ?_; (focus (simp [wantG]; done)); go_simp) | (refine wpG_take ?_ ?_; (focus (simp [wantG]; done))) | (refine wpG_pure (fun K hK => ?_); go_simp; refine hK _ _ ?_; clear hK K) | (refine wpG_deed (by decide) (fun K hK => ?_); go_simp) | (refine wpG_nil ?_))
    go_ret2
    refine ⟨.inr ⟨by trivial, A9, n9, k9, rfl, ?_, fun k hk => (hg9 k hk).elim (HG8.out k) (fun h => Nat.le_trans HC8.out.size h)⟩, HC8.out.trans hc9 (fun y hy => .inr (HG8.out y hy))⟩
    have : encRs x = [] ++ [wd64 x.e, x.v, x.l.length].flatMap le8 ++ x.l := by unfold encRs; simp
    rw [this]
    exact hs9
end Go.Proofs.YtinlpjgjjplceaaDoor
