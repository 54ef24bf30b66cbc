/- FramesWords: the walk. -/
import Derived.Test.YtblkfikcfgocgaaFrJ
namespace Go.Proofs.Ytblkfikcfgocgaa
open Go Go.RowKit

set_option maxRecDepth 20000 in
set_option maxHeartbeats 8000000 in
theorem words_law (c : Cf) (f i : Int) {x : Nat} (hx : x < 18446744073709551616) (w : World) :
    Calls Try.prog 5 #[.agg (cg c), .int .i64 f, .int .i64 i, .int .u64 x] w fun e w' => e = .returned (.bool true) ∧ Chg [] w w' := by
  have HB := hide (Blk.new w 26 (cg c))
  have HC := hide (show Chg [] w (w.alloc (.cells (cg c) 26)) from (Chg.refl [] w).alloc _)
  have HN := hide (fun W => New_any c W)
  have HK := hide known03_any
  have HXX := hide hx
  clear hx
  go_enter Try.func5, Try.ntmps5
  go_wp2_with (first | (refine wpList_box26 rfl _ rfl rfl ?_) | (refine wpList_load26L (b := w.heap.size) (c := c) rfl _ rfl rfl ?_ ?_; (focus exact HB.out)))
  refine (HN.out _).mono ?_
  rintro e W2 ⟨hn, hc2⟩
  have HC2 := hide (HC.out.stay hc2)
  rcases hn with ⟨hmay, rfl⟩ | ⟨hmay, a, gb, gm, n, rfl, hn, hf, ha, hb, hm⟩
  · clear hmay hc2
    go_wp2_with fail
    refine (HK.out _).mono ?_
    rintro e W3 ⟨rfl, hc3⟩
    have HC3 := hide (HC2.out.stay hc3)
    clear hc3
    go_wp2_with fail
    go_ret
    exact ⟨rfl, HC3.out⟩
  have HF := hide hf
  have HBB := hide (show w.heap.size ≤ gb from Nat.le_trans HC.out.size hb)
  have hn4 : 4 ≤ n := by have := (tot_le (mayB_iff.1 hmay)).1; omega
  clear hmay hc2 hn hf ha hb hm HB HC HN
  have HSW := hide (SetWord_any HF.out f i HXX.out)
  obtain ⟨r, hr⟩ : ∃ r, woE n f i = r := ⟨_, rfl⟩
  rw [hr] at HSW
  by_cases h0 : r = 0
  rotate_left
  · have j2 : (r == 0) = false := by simpa using h0
    have j4 : (r != 0) = true := by simpa using h0
    rw [if_neg h0] at HSW
    clear hr
    go_wp2_with fail
    refine HSW.out.mono ?_
    rintro e W3 ⟨rfl, _, hc3⟩
    have HC3 := hide (HC2.out.trans hc3 (fun x hx => .inr (by obtain rfl := List.mem_singleton.1 hx; exact HBB.out)))
    clear hc3
    go_wp2_with fail
    refine (HK.out _).mono ?_
    rintro e W4 ⟨rfl, hc4⟩
    have HC4 := hide (HC3.out.stay hc4)
    clear hc4
    go_wp2_with fail
    go_ret
    exact ⟨rfl, HC4.out⟩
  subst h0
  rw [if_pos rfl] at HSW
  obtain ⟨q1, q2, q3, q4⟩ := woE_ok hr
  obtain ⟨f, rfl⟩ : ∃ f' : Nat, f = f' := ⟨f.toNat, by omega⟩
  obtain ⟨i, rfl⟩ : ∃ t : Nat, i = t := ⟨i.toNat, by omega⟩
  rw [Int.toNat_natCast, Int.toNat_natCast] at HSW
  have hfn : f < n := by omega
  have hi : i ≤ 31 := by omega
  have HW0 := hide hr
  clear hr q1 q2 q3 q4
  go_wp2_with fail
  refine HSW.out.mono ?_
  rintro e W3 ⟨rfl, hf3, hc3⟩
  obtain ⟨B1, hB1⟩ : ∃ B1, B1 = splice (List.replicate (n * 256) 0) (f * 256 + 8 * i) (le8 x) := ⟨_, rfl⟩
  rw [← hB1] at hf3
  have HF3 := hide hf3
  have HC3 := hide (HC2.out.trans hc3 (fun x hx => .inr (by obtain rfl := List.mem_singleton.1 hx; exact HBB.out)))
  have hlb0 : (List.replicate (n * 256) 0).length = n * 256 := by simp
  have hfit : f * 256 + 8 * i + (le8 x).length ≤ (List.replicate (n * 256) 0).length := by rw [hlb0, le8_length]; omega
  have hwd : wordN B1 f i = x := by
    unfold wordN
    have e : (B1.drop (f * 256 + 8 * i)).take 8 = le8 x := by
      refine List.ext_getElem? fun j => ?_
      by_cases hj : j < 8
      · rw [List.getElem?_take_of_lt hj, List.getElem?_drop, hB1, splice_get hfit, if_pos (by rw [le8_length]; omega)]
        congr 1
        omega
      · rw [List.getElem?_eq_none (by rw [List.length_take]; omega), List.getElem?_eq_none (by rw [le8_length]; omega)]
    rw [e, leN_le8 HXX.out]
  have HWO := hide (Word_any HF3.out f i)
  rw [HW0.out, if_pos rfl, Int.toNat_natCast, Int.toNat_natCast, hwd] at HWO
  have HR := hide (Read_ok HF3.out hfn)
  obtain ⟨X, hX⟩ : ∃ X, X = cut B1 f 0 256 := ⟨_, rfl⟩
  have hXl : X.length = 256 := by rw [hX]; exact cut_length HF3.out hfn (by omega)
  rw [← hX] at HR
  have HXG := hide (show ∀ k, k < 256 → X[k]? = some (if k / 8 = i then x / 2 ^ (8 * (k % 8)) % 256 else 0) from fun k hk => by
    rw [hX, cut_get, if_pos hk, hB1, splice_get hfit, le8_length]
    by_cases hki : k / 8 = i
    · rw [if_pos (by omega), if_pos hki, show f * 256 + 0 + k - (f * 256 + 8 * i) = k % 8 by omega, le8_get x (by omega)]
    · rw [if_neg (by omega), if_neg hki, List.getElem?_replicate, if_pos (by omega)])
  obtain ⟨g', hg'⟩ : ∃ g', g' = (f + 1) % n := ⟨_, rfl⟩
  have hgn : g' < n := by rw [hg']; exact Nat.mod_lt _ (by omega)
  have hgf : g' ≠ f := by
    rw [hg']
    by_cases e : f + 1 = n
    · rw [e, Nat.mod_self]; omega
    · rw [Nat.mod_eq_of_lt (by omega)]; omega
  have HR2 := hide (fun W (h : FM W a gb gm c n B1 (List.replicate n fMk)) => Read_ok h hgn)
  rw [show cut B1 g' 0 256 = List.replicate 256 0 from by
    have e3 := cut_other (B := List.replicate (n * 256) 0) (xs := le8 x) (t := f) (at_ := 8 * i) (i := g') hfit (by rw [le8_length]; omega) hgf 0 256 (by omega)
    rw [hB1, e3, cut_zero hgn]] at HR2
  have hmod : (((f : Int) + 1) % (n : Int)) = (g' : Int) := by rw [hg']; push_cast; rfl
  have hn1024 := HF3.out.n2
  have f0 : (0 : Int) ≤ (f : Int) := by omega
  have f1 : (f : Int) ≤ 1024 := by omega
  have n0 : (1 : Int) ≤ (n : Int) := by omega
  have n1 : (n : Int) ≤ 1024 := by omega
  have nz1 : ((n : Int) == 0) = false := beq_eq_false_iff_ne.2 (by omega)
  have nz2 : (n == 0) = false := beq_eq_false_iff_ne.2 (by omega)
  have HXL := hide hXl
  clear hf3 hc3 HF HC2 HSW hB1 hlb0 hfit hwd hX hXl hg' hgf
  go_wp2_with fail
  refine HWO.out.mono ?_
  rintro e w' ⟨rfl, rfl⟩
  go_wp2_with fail
  refine HR.out.mono ?_
  rintro e W5 ⟨g1, o1, cap1, rfl, hs5, hg1, hc5⟩
  have HF5 := hide (HF3.out.stay hc5)
  have HC5 := hide (HC3.out.stay hc5)
  have HS5 := hide hs5
  clear hs5 hg1 hc5 HF3 HC3 HR
  go_wp2_with fail
  go_loopw [71] (fun q wr => ∃ k : Nat, k ≤ 256 ∧ q = .int .i64 k ∧ wr = W5) (fun q _ => 256 - (intOf q).toNat)
  case atStart => exact ⟨0, by omega, rfl, rfl⟩
  case round =>
    obtain ⟨k, hk, rfl, rfl⟩ := hrel
    by_cases hkt : k < 256
    · have k1 : (0 : Int) ≤ (k : Int) := by omega
      have k2 : (k : Int) < 256 := by omega
      have hkX : k < X.length := by rw [HXL.out]; exact hkt
      have hc := RE.cell ucl_len HS5.out.re (k := k) (j := 0) hkX (by omega) rfl
      have hxk := HXG.out k hkt
      rw [List.getElem?_eq_getElem hkX] at hxk
      rw [Nat.mul_one, Nat.add_zero, Option.some.inj hxk] at hc
      have hgr : g1 < wr.heap.size := HS5.out.own_lt g1 (by simp [own, Value.ownBlock])
      obtain ⟨q, hq⟩ : ∃ q, q = k / 8 := ⟨_, rfl⟩
      obtain ⟨rr, hrr⟩ : ∃ rr, rr = k % 8 := ⟨_, rfl⟩
      rw [← hq, ← hrr] at hc
      have dq : (k : Int) / 8 = (q : Int) := by omega
      have dr : (k : Int) % 8 = (rr : Int) := by omega
      have r8 : (rr : Int) < 8 := by omega
      have r0 : (0 : Int) ≤ (rr : Int) := by omega
      have x0 : (0 : Int) ≤ (x : Int) := by omega
      have x1 : (x : Int) < 18446744073709551616 := by have := HXX.out; omega
      clear hxk hkX hq hrr
      by_cases hqi : q = i
      · subst hqi
        rw [if_pos rfl] at hc
        have HV := hide (show ((x / 2 ^ (8 * rr) % 256 : Nat) : Int) = (x : Int) / 2 ^ (8 * rr) % 256 by push_cast; rfl)
        rw [HV.out] at hc
        go_wp2_with fail
        go_roundw
        case rel => exact ⟨k + 1, by omega, by go_num, trivial⟩
        case measure => simp [intOf]; omega
      · rw [if_neg hqi] at hc
        have e1 : ((q : Int) == (i : Int)) = false := beq_eq_false_iff_ne.2 (by omega)
        have e2 : (q == i) = false := beq_eq_false_iff_ne.2 hqi
        go_wp2_with fail
        go_roundw
        case rel => exact ⟨k + 1, by omega, by go_num, trivial⟩
        case measure => simp [intOf]; omega
    · obtain rfl : k = 256 := by omega
      have HFR := hide (Frames_any HF5.out)
      have HRR := hide (HR2.out _ HF5.out)
      go_wp2_with fail
      refine HFR.out.mono ?_
      rintro e w' ⟨rfl, rfl⟩
      go_wp2_with fail
      refine HRR.out.mono ?_
      rintro e W7 ⟨g2, o2, cap2, rfl, hs7, hg2, hc7⟩
      have HC7 := hide (HC5.out.stay hc7)
      have HS7 := hide hs7
      have hg7 : g2 < W7.heap.size := hs7.own_lt g2 (by simp [own, Value.ownBlock])
      clear hs7 hg2 hc7
      go_wp2_with fail
      go_loopw [104] (fun q wr => ∃ k : Nat, k ≤ 256 ∧ q = .int .i64 k ∧ wr = W7) (fun q _ => 256 - (intOf q).toNat)
      case atStart => exact ⟨0, by omega, rfl, rfl⟩
      case round =>
        obtain ⟨k, hk, rfl, rfl⟩ := hrel
        by_cases hkt : k < 256
        · have k1 : (0 : Int) ≤ (k : Int) := by omega
          have k2 : (k : Int) < 256 := by omega
          have hc := RE.cell ucl_len HS7.out.re (k := k) (j := 0) (by simp; omega) (by omega) rfl
          rw [Nat.mul_one, Nat.add_zero, List.getElem_replicate] at hc
          go_wp2_with fail
          go_roundw
          case rel => exact ⟨k + 1, by omega, by go_num, trivial⟩
          case measure => simp [intOf]; omega
        · obtain rfl : k = 256 := by omega
          go_wp2_with fail
          refine (HK.out _).mono ?_
          rintro e W9 ⟨rfl, hc9⟩
          have HC9 := hide (HC7.out.stay hc9)
          clear hc9
          go_wp2_with fail
          go_ret
          exact ⟨rfl, HC9.out⟩
end Go.Proofs.Ytblkfikcfgocgaa
