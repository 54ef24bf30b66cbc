/- FramesCopies: the walk. -/
import Derived.Test.YtblkfikcfgocgaaFrQ
import Derived.Test.YtblkfikcfgocgaaFrI
namespace Go.Proofs.Ytblkfikcfgocgaa
open Go Go.RowKit

/-- one byte that was written is read -/
theorem cut_one {n : Nat} {B : List Nat} (hB : B.length = n * 256) {f at_ b : Nat} (hf : f < n) (ha : at_ + 1 ≤ 256) : cut (splice B (f * 256 + at_) [b]) f at_ 1 = [b] := by
  refine List.ext_getElem? fun j => ?_
  rw [cut_get]
  by_cases hj : j < 1
  · obtain rfl : j = 0 := by omega
    rw [if_pos hj, splice_get (by simp; omega), if_pos (by simp)]
    simp
  · rw [if_neg hj, List.getElem?_eq_none (by simp; omega)]
theorem Read_one {w : World} {a gb gm : Nat} {c : Cf} {n : Nat} {B : List Nat} {M : List Mk} (h : FM w a gb gm c n B M) {f at_ b : Nat} (hf : f < n) (ha : at_ + 1 ≤ 256) (hb : cut B f at_ 1 = [b]) :
    Calls Try.prog 14 #[.pointer (some ⟨a, 0, none⟩), .int .i64 f, .int .i64 at_, .int .i64 1] w fun e w' => (∃ g off cap, e = .returned (.tuple #[.slice (some ⟨g, off, none⟩) 1 cap, .int .i64 0]) ∧ w'.cell? ⟨g, off, none⟩ = some (.int .u8 b) ∧ g < w'.heap.size) ∧ Chg [] w w' := by
  refine (Read_any h f at_ 1 (by omega)).mono fun e w' ⟨v, he, hv, hc⟩ => ?_
  have e0 : paE n f at_ 1 = 0 := by unfold paE; rw [if_neg (by omega), if_neg (by omega)]
  rcases hv with ⟨h1, _⟩ | ⟨_, A, cap, rfl, hs, hn⟩
  · exact absurd e0 h1
  · have e1 : cut B (f : Int).toNat (at_ : Int).toNat (1 : Int).toNat = [b] := by rw [Int.toNat_natCast, Int.toNat_natCast]; exact hb
    rw [e1] at hs hn he
    obtain ⟨g, off, rfl⟩ := SE.addr hs (by simp)
    have hcell := RE.cell ucl_len hs.re (k := 0) (j := 0) (by simp) (by omega) rfl
    exact ⟨⟨g, off, cap, by rw [he, e0]; rfl, by simpa using hcell, hs.own_lt g (by simp [own, Value.ownBlock])⟩, hc⟩
set_option maxRecDepth 20000 in
set_option maxHeartbeats 8000000 in
theorem copies_law (c : Cf) (f at_ : Int) {b : Nat} (hb8 : b < 256) (w : World) :
    Calls Try.prog 6 #[.agg (cg c), .int .i64 f, .int .i64 at_, .int .u8 b] w fun e w' => e = .returned (.bool true) ∧ Chg [] w w' := by
  have HB := hide (Blk.new w 26 (cg c))
  have HC := hide (show Chg [] w (w.alloc (.cells (cg c) 26)) from (Chg.refl [] w).alloc _)
  have HN := hide (fun W => New_any c W)
  have HK := hide known03_any
  have b0 : (0 : Int) ≤ (b : Int) := by omega
  have b1 : (b : Int) < 256 := by omega
  go_enter Try.func6, Try.ntmps6
  go_wp2_with (first | (refine wpList_box26 rfl _ rfl rfl ?_) | (refine wpList_load26L (b := w.heap.size) (c := c) rfl _ rfl rfl ?_ ?_; (focus exact HB.out)))
  refine (HN.out _).mono ?_
  rintro e W2 ⟨hn, hc2⟩
  have HC2 := hide (HC.out.stay hc2)
  rcases hn with ⟨hmay, rfl⟩ | ⟨hmay, a, gb, gm, n, rfl, hn, hf, ha, hb, hm⟩
  · clear hmay hc2
    go_wp2_with fail
    refine (HK.out _).mono ?_
    rintro e W3 ⟨rfl, hc3⟩
    have HC3 := hide (HC2.out.stay hc3)
    clear hc3
    go_wp2_with fail
    go_ret
    exact ⟨rfl, HC3.out⟩
  have HF := hide hf
  have HBB := hide (show w.heap.size ≤ gb from Nat.le_trans HC.out.size hb)
  clear hmay hc2 hn hf ha hb hm HB HC HN
  have HWR := hide (Write_any (HF.out.stay ((Chg.refl [] W2).alloc (.cells #[.int .u8 b] 5))) f at_ (y := .slice (some ⟨W2.heap.size, 0, none⟩) 1 1) (xs := [b]) (Rd_new W2 5 1 1 (fc ucl [b]) rfl) (by simp) (by simpa using hb8))
  obtain ⟨x1, hx1⟩ : ∃ x1, paE n f at_ ([b] : List Nat).length = x1 := ⟨_, rfl⟩
  unfold wrB at HWR
  rw [hx1] at HWR
  by_cases hx : x1 = 0
  rotate_left
  · have j2 : (x1 == 0) = false := by simpa using hx
    have j4 : (x1 != 0) = true := by simpa using hx
    rw [if_neg hx] at HWR
    clear hx1
    go_wp2_with fail
    refine HWR.out.mono ?_
    rintro e W3 ⟨rfl, _, hc3⟩
    have HC3 := hide ((HC2.out.alloc (.cells #[.int .u8 b] 5)).trans hc3 (fun x hx => .inr (by obtain rfl := List.mem_singleton.1 hx; exact HBB.out)))
    clear hc3
    go_wp2_with fail
    refine (HK.out _).mono ?_
    rintro e W4 ⟨rfl, hc4⟩
    have HC4 := hide (HC3.out.stay hc4)
    clear hc4
    go_wp2_with fail
    go_ret
    exact ⟨rfl, HC4.out⟩
  subst hx
  rw [if_pos rfl] at HWR
  obtain ⟨q1, q2, q3, q4, q5, q6⟩ := paE_ok hx1
  obtain ⟨f, rfl⟩ : ∃ f' : Nat, f = f' := ⟨f.toNat, by omega⟩
  obtain ⟨ao, rfl⟩ : ∃ t' : Nat, at_ = t' := ⟨at_.toNat, by omega⟩
  rw [Int.toNat_natCast, Int.toNat_natCast] at HWR
  have hfn : f < n := by omega
  have hao : ao + 1 ≤ 256 := by simp at q6; omega
  have HX1 := hide hx1
  clear hx1 q1 q2 q3 q4 q5 q6
  go_wp2_with fail
  refine HWR.out.mono ?_
  rintro e W3 ⟨rfl, hf3, hc3⟩
  obtain ⟨B1, hB1⟩ : ∃ B1, B1 = splice (List.replicate (n * 256) 0) (f * 256 + ao) [b] := ⟨_, rfl⟩
  rw [← hB1] at hf3
  have HF3 := hide hf3
  have HC3 := hide ((HC2.out.alloc (.cells #[.int .u8 b] 5)).trans hc3 (fun x hx => .inr (by obtain rfl := List.mem_singleton.1 hx; exact HBB.out)))
  have HCP := hide (Copy_any HF3.out)
  have HCUT := hide (show cut B1 f ao 1 = [b] by rw [hB1]; exact cut_one (by simp) hfn hao)
  clear hf3 hc3 HF HC2 HWR hB1
  go_wp2_with fail
  refine HCP.out.mono ?_
  rintro e W4 ⟨⟨a', gb', gm', rfl, hf4, ha4, hb4, hm4⟩, hc4⟩
  have HG := hide (show ∀ x, x = a ∨ x = gb ∨ x = gm → ∀ y, y = a' ∨ y = gb' ∨ y = gm' → x ≠ y from fun x hx y hy => by
    have := HF3.out.lt
    rcases hx with rfl | rfl | rfl <;> rcases hy with rfl | rfl | rfl <;> omega)
  have HN4 := hide hf4
  have HF4 := hide (HF3.out.stay hc4)
  have HC4 := hide (HC3.out.stay hc4)
  have HM4 := hide (Nat.le_trans HC3.out.size hm4)
  have HFR1 := hide (Frames_any hf4)
  have HFR2 := hide (Frames_any HF4.out)
  have hn := HF4.out.n2
  clear hf4 ha4 hb4 hm4 hc4 HF3 HC3 HCP
  obtain ⟨b2, hb2⟩ : ∃ b2 : Nat, ((b : Int) + 1) % 256 = b2 ∧ b2 < 256 := ⟨(((b : Int) + 1) % 256).toNat, by omega⟩
  obtain ⟨hb2, hb28⟩ := hb2
  go_wp2_with fail
  refine HFR1.out.mono ?_
  rintro e w' ⟨rfl, rfl⟩
  go_wp2_with fail
  refine HFR2.out.mono ?_
  rintro e w' ⟨rfl, rfl⟩
  have HWR2 := hide (Write_any (HF4.out.stay ((Chg.refl [] W4).alloc (.cells #[.int .u8 b2] 5))) f ao (y := .slice (some ⟨W4.heap.size, 0, none⟩) 1 1) (xs := [b2]) (Rd_new W4 5 1 1 (fc ucl [b2]) rfl) (by simp) (by simpa using hb28))
  have hx2 : paE n f ao ([b2] : List Nat).length = 0 := HX1.out
  unfold wrB at HWR2
  rw [hx2, if_pos rfl, Int.toNat_natCast, Int.toNat_natCast] at HWR2
  clear hx2
  go_wp2_with fail
  refine HWR2.out.mono ?_
  rintro e W5 ⟨rfl, hf5, hc5⟩
  obtain ⟨B2, hB2⟩ : ∃ B2, B2 = splice B1 (f * 256 + ao) [b2] := ⟨_, rfl⟩
  rw [← hB2] at hf5
  have HCUT2 := hide (show cut B2 f ao 1 = [b2] by rw [hB2]; exact cut_one HF4.out.lb hfn hao)
  have HF5 := hide hf5
  have HN5 := hide ((HN4.out.stay ((Chg.refl [] W4).alloc (.cells #[.int .u8 b2] 5))).chg hc5 (by simpa using fun h => HG.out gb (by simp) a' (by simp) h.symm) (by simpa using fun h => HG.out gb (by simp) gb' (by simp) h.symm) (by simpa using fun h => HG.out gb (by simp) gm' (by simp) h.symm))
  have HC5 := hide ((HC4.out.alloc (.cells #[.int .u8 b2] 5)).trans hc5 (fun x hx => .inr (by obtain rfl := List.mem_singleton.1 hx; exact HBB.out)))
  have HSM := hide (SetMark_any HN5.out f ⟨2, 0, 0, 0, 5⟩ (by decide))
  rw [show smE n f ⟨2, 0, 0, 0, 5⟩ = 0 by unfold smE; rw [show frE n f = 0 by unfold frE; rw [if_pos (by omega)], if_neg (by simp), if_pos (by decide)], if_pos rfl, Int.toNat_natCast] at HSM
  unfold mval at HSM
  simp only at HSM
  clear hf5 hc5 HF4 HN4 HC4 HWR2 hB2
  go_wp2_with fail
  refine HSM.out.mono ?_
  rintro e W6 ⟨rfl, hf6, hc6⟩
  have HN6 := hide hf6
  have HF6 := hide (HF5.out.chg hc6 (by simpa using HG.out a (by simp) gm' (by simp)) (by simpa using HG.out gb (by simp) gm' (by simp)) (by simpa using HG.out gm (by simp) gm' (by simp)))
  have HC6 := hide (HC5.out.trans hc6 (fun x hx => .inr (by obtain rfl := List.mem_singleton.1 hx; exact HM4.out)))
  have HR1 := hide (Read_one HN6.out hfn hao HCUT.out)
  clear hf6 hc6 HF5 HN5 HC5 HSM
  go_wp2_with fail
  refine HR1.out.mono ?_
  rintro e W7 ⟨⟨g1, o1, cap1, rfl, q1, hg1⟩, hc7⟩
  have HF7 := hide (HF6.out.stay hc7)
  have HC7 := hide (HC6.out.stay hc7)
  have HR2 := hide (Read_one HF7.out hfn hao HCUT2.out)
  have HQ1 := hide q1
  clear hc7 HF6 HC6 HR1 HN6 q1
  go_wp2_with fail
  refine HR2.out.mono ?_
  rintro e W8 ⟨⟨g2, o2, cap2, rfl, q2, hg2⟩, hc8⟩
  have HF8 := hide (HF7.out.stay hc8)
  have HC8 := hide (HC7.out.stay hc8)
  have HQ18 := hide (hc8.cell HQ1.out List.not_mem_nil)
  have hg18 : g1 < W8.heap.size := Nat.lt_of_lt_of_le hg1 hc8.size
  have HQ2 := hide q2
  have HMK := hide (Mark_in HF8.out hfn (m := fMk) (by rw [List.getElem?_replicate, if_pos hfn]))
  clear hc8 HF7 HC7 HR2 HQ1 q2 hg1
  go_wp2_with fail
  refine HMK.out.mono ?_
  rintro e W9 ⟨rfl, hc9⟩
  have q19 := hc9.cell HQ18.out List.not_mem_nil
  have q29 := hc9.cell HQ2.out List.not_mem_nil
  have hg19 : g1 < W9.heap.size := Nat.lt_of_lt_of_le hg18 hc9.size
  have hg29 : g2 < W9.heap.size := Nat.lt_of_lt_of_le hg2 hc9.size
  have HC9 := hide (HC8.out.stay hc9)
  have HC10 := hide (HC9.out.alloc (.cells #[.int .u8 1, .int .i64 0, .int .i64 0, .int .i64 0, .int .i64 0] 43))
  have er : fMk.role = 1 := rfl
  have e1 : fMk.ord = 0 := rfl
  have e2 : fMk.owr = 0 := rfl
  have e3 : fMk.page = 0 := rfl
  have e4 : fMk.idx = 0 := rfl
  rw [er, e1, e2, e3, e4]
  clear hc9 HF8 HC8 HMK HQ18 HQ2 hg18 hg2 er e1 e2 e3 e4
  go_wp2_with fail
  refine (HK.out _).mono ?_
  rintro e W10 ⟨rfl, hc10⟩
  have HC11 := hide (HC10.out.stay hc10)
  clear hc10
  go_wp2_with fail
  go_ret
  exact ⟨rfl, HC11.out⟩
end Go.Proofs.Ytblkfikcfgocgaa
