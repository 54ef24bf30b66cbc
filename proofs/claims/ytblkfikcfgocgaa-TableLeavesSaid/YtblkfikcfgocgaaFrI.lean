/- FramesMoves: the walk. -/
import Derived.Test.YtblkfikcfgocgaaFrH
namespace Go.Proofs.Ytblkfikcfgocgaa
open Go Go.RowKit

theorem splice_get {α : Type} {B xs : List α} {o : Nat} (h : o + xs.length ≤ B.length) (j : Nat) : (splice B o xs)[j]? = if o ≤ j ∧ j < o + xs.length then xs[j - o]? else B[j]? := by
  unfold splice
  have h1 : (B.take o).length = o := by rw [List.length_take]; omega
  by_cases c1 : j < o
  · rw [List.getElem?_append_left (by omega), if_neg (by omega), List.getElem?_take_of_lt c1]
  · rw [List.getElem?_append_right (by omega), h1]
    by_cases c2 : j < o + xs.length
    · rw [if_pos (by omega), List.getElem?_append_left (by omega)]
    · rw [if_neg (by omega), List.getElem?_append_right (by omega), List.getElem?_drop]
      congr 1
      omega
theorem cut_get (B : List Nat) (f at_ k j : Nat) : (cut B f at_ k)[j]? = if j < k then B[f * 256 + at_ + j]? else none := by
  unfold cut
  by_cases h : j < k
  · rw [if_pos h, List.getElem?_take_of_lt h, List.getElem?_drop]
  · rw [if_neg h, List.getElem?_eq_none (by rw [List.length_take]; omega)]
set_option maxRecDepth 20000 in
theorem cut_other {B xs : List Nat} {t at_ i : Nat} (h : t * 256 + at_ + xs.length ≤ B.length) (ha : at_ + xs.length ≤ 256) (hi : i ≠ t) (b k : Nat) (hk : b + k ≤ 256) : cut (splice B (t * 256 + at_) xs) i b k = cut B i b k := by
  refine List.ext_getElem? fun j => ?_
  rw [cut_get, cut_get]
  by_cases hj : j < k
  · rw [if_pos hj, if_pos hj, splice_get h, if_neg]
    rcases Nat.lt_or_gt_of_ne hi with hlt | hlt
    · omega
    · omega
  · rw [if_neg hj, if_neg hj]
set_option maxRecDepth 20000 in
theorem cut_same {B xs : List Nat} {t : Nat} (h : t * 256 + xs.length ≤ B.length) (hx : xs.length = 256) : cut (splice B (t * 256) xs) t 0 256 = xs := by
  refine List.ext_getElem? fun j => ?_
  rw [cut_get]
  by_cases hj : j < 256
  · rw [if_pos hj, splice_get h, if_pos (by omega)]
    congr 1
    omega
  · rw [if_neg hj, List.getElem?_eq_none (by omega)]
theorem cut_zero {n i : Nat} (hi : i < n) : cut (List.replicate (n * 256) 0) i 0 256 = List.replicate 256 0 := by
  unfold cut
  rw [List.drop_replicate, List.take_replicate]
  congr 1
  omega
theorem run_min (ts : Array TypeId) (ty : TypeId) (k k' : IntKind) (x y : Int) (w : World) : (Builtin.min_ ts ty #[.int k x, .int k' y]).run Try.prog w = .ok (.int k (min x y)) w := by
  have e : min x y = if y < x then y else x := by split <;> omega
  rw [e]
  simp [Builtin.min_, Builtin.min2]
theorem Read_ok {w : World} {a gb gm : Nat} {c : Cf} {n : Nat} {B : List Nat} {M : List Mk} (h : FM w a gb gm c n B M) {f : Nat} (hf : f < n) :
    Calls Try.prog 14 #[.pointer (some ⟨a, 0, none⟩), .int .i64 f, .int .i64 0, .int .i64 256] w fun e w' => ∃ g off cap, e = .returned (.tuple #[.slice (some ⟨g, off, none⟩) 256 cap, .int .i64 0]) ∧ SB w' (.slice (some ⟨g, off, none⟩) 256 cap) (cut B f 0 256) ∧ w.heap.size ≤ g ∧ Chg [] w w' := by
  refine (Read_any h f 0 256 (by omega)).mono fun e w' ⟨v, he, hv, hc⟩ => ?_
  have e0 : paE n f 0 256 = 0 := by unfold paE; rw [if_neg (by omega), if_neg (by omega)]
  rcases hv with ⟨h1, _⟩ | ⟨_, A, cap, rfl, hs, hn⟩
  · exact absurd e0 h1
  · have e1 : cut B (f : Int).toNat (0 : Int).toNat (256 : Int).toNat = cut B f 0 256 := by rw [Int.toNat_natCast]; rfl
    have hl := cut_length h hf (at_ := 0) (k := 256) (by omega)
    rw [e1, hl] at hs hn he
    obtain ⟨g, off, rfl⟩ := SE.addr hs (by omega)
    exact ⟨g, off, cap, by rw [he, e0], hs, hn g (by simp [own, Value.ownBlock]), hc⟩
set_option maxRecDepth 20000 in
set_option maxHeartbeats 8000000 in
theorem moves_law (c : Cf) (f t at_ : Int) {v : Value} {bs : List Nat} (w : World) (hv : RB w v bs) (h8 : ∀ x ∈ bs, x < 256) (hl : (bs.length : Int) ≤ 9223372036854775807) :
    Calls Try.prog 3 #[.agg (cg c), .int .i64 f, .int .i64 t, .int .i64 at_, v] w fun e w' => e = .returned (.bool true) ∧ Chg [] w w' := by
  have HB := hide (Blk.new w 26 (cg c))
  have HC := hide (show Chg [] w (w.alloc (.cells (cg c) 26)) from (Chg.refl [] w).alloc _)
  have HN := hide (fun W => New_any c W)
  have HK := hide known03_any
  have HV := hide hv
  obtain ⟨A, cap, rfl⟩ := RE.form hv
  have H8 := hide h8
  clear hv h8
  go_enter Try.func3, Try.ntmps3
  go_wp2_with (first | (refine wpList_box26 rfl _ rfl rfl ?_) | (refine wpList_load26L (b := w.heap.size) (c := c) rfl _ rfl rfl ?_ ?_; (focus exact HB.out)))
  refine (HN.out _).mono ?_
  rintro e W2 ⟨hn, hc2⟩
  have HC2 := hide (HC.out.stay hc2)
  rcases hn with ⟨hmay, rfl⟩ | ⟨hmay, a, gb, gm, n, rfl, hn, hf, ha, hb, hm⟩
  · clear hmay hc2
    go_wp2_with fail
    refine (HK.out _).mono ?_
    rintro e W3 ⟨rfl, hc3⟩
    have HC3 := hide (HC2.out.stay hc3)
    clear hc3
    go_wp2_with fail
    go_ret
    exact ⟨rfl, HC3.out⟩
  have HF := hide hf
  have HBB := hide (show w.heap.size ≤ gb from Nat.le_trans HC.out.size hb)
  have HV2 := hide (HV.out.stay HC2.out)
  clear hmay hc2 hn hf ha hb hm HB HC HN HV
  by_cases hlen : 256 < bs.length
  · have d1 : decide (256 < (bs.length : Int)) = true := decide_eq_true (by omega)
    have d2 : decide (256 < bs.length) = true := decide_eq_true hlen
    go_wp2_with fail
    refine (HK.out _).mono ?_
    rintro e W3 ⟨rfl, hc3⟩
    have HC3 := hide (HC2.out.stay hc3)
    clear hc3
    go_wp2_with fail
    go_ret
    exact ⟨rfl, HC3.out⟩
  have d1 : decide (256 < (bs.length : Int)) = false := decide_eq_false (by omega)
  have d2 : decide (256 < bs.length) = false := decide_eq_false hlen
  have HWR := hide (Write_any HF.out f at_ HV2.out (by omega) H8.out)
  obtain ⟨x1, hx1⟩ : ∃ x1, paE n f at_ bs.length = x1 := ⟨_, rfl⟩
  unfold wrB at HWR
  rw [hx1] at HWR
  by_cases hx : x1 = 0
  rotate_left
  · have j2 : (x1 == 0) = false := by simpa using hx
    have j4 : (x1 != 0) = true := by simpa using hx
    rw [if_neg hx] at HWR
    clear hx1
    go_wp2_with fail
    refine HWR.out.mono ?_
    rintro e W3 ⟨rfl, _, hc3⟩
    have HC3 := hide (HC2.out.trans hc3 (fun x hx => .inr (by obtain rfl := List.mem_singleton.1 hx; exact HBB.out)))
    clear hc3
    go_wp2_with fail
    refine (HK.out _).mono ?_
    rintro e W4 ⟨rfl, hc4⟩
    have HC4 := hide (HC3.out.stay hc4)
    clear hc4
    go_wp2_with fail
    go_ret
    exact ⟨rfl, HC4.out⟩
  subst hx
  rw [if_pos rfl] at HWR
  obtain ⟨q1, q2, q3, q4, q5, q6⟩ := paE_ok hx1
  obtain ⟨f, rfl⟩ : ∃ f' : Nat, f = f' := ⟨f.toNat, by omega⟩
  obtain ⟨ao, rfl⟩ : ∃ t' : Nat, at_ = t' := ⟨at_.toNat, by omega⟩
  rw [Int.toNat_natCast, Int.toNat_natCast] at HWR
  have hfn : f < n := by omega
  have hao : ao + bs.length ≤ 256 := by omega
  clear hx1 q1 q2 q3 q4 q5 q6
  go_wp2_with fail
  refine HWR.out.mono ?_
  rintro e W3 ⟨rfl, hf3, hc3⟩
  obtain ⟨B1, hB1⟩ : ∃ B1, B1 = splice (List.replicate (n * 256) 0) (f * 256 + ao) bs := ⟨_, rfl⟩
  rw [← hB1] at hf3
  have HF3 := hide hf3
  have HC3 := hide (HC2.out.trans hc3 (fun x hx => .inr (by obtain rfl := List.mem_singleton.1 hx; exact HBB.out)))
  have HB1 := hide hB1
  clear hf3 hc3 HF HC2 HWR HV2 hB1
  have HWS := hide (Write_any (HF3.out.stay ((Chg.refl [] W3).alloc (.cells #[.int .u8 77] 5))) t 0 (y := .slice (some ⟨W3.heap.size, 0, none⟩) 1 1) (xs := [77]) (Rd_new W3 5 1 1 (fc ucl [77]) rfl) (by simp) (by simp))
  obtain ⟨x2, hx2⟩ : ∃ x2, paE n t 0 ([77] : List Nat).length = x2 := ⟨_, rfl⟩
  unfold wrB at HWS
  rw [hx2] at HWS
  by_cases hx : x2 = 0
  rotate_left
  · have j2 : (x2 == 0) = false := by simpa using hx
    have j4 : (x2 != 0) = true := by simpa using hx
    rw [if_neg hx] at HWS
    clear hx2
    go_wp2_with fail
    refine HWS.out.mono ?_
    rintro e W4 ⟨rfl, _, hc4⟩
    have HC4 := hide ((HC3.out.alloc (.cells #[.int .u8 77] 5)).trans hc4 (fun x hx => .inr (by obtain rfl := List.mem_singleton.1 hx; exact HBB.out)))
    clear hc4
    go_wp2_with fail
    refine (HK.out _).mono ?_
    rintro e W5 ⟨rfl, hc5⟩
    have HC5 := hide (HC4.out.stay hc5)
    clear hc5
    go_wp2_with fail
    go_ret
    exact ⟨rfl, HC5.out⟩
  subst hx
  rw [if_pos rfl] at HWS
  obtain ⟨q1, q2, q3, q4, q5, q6⟩ := paE_ok hx2
  obtain ⟨t, rfl⟩ : ∃ t' : Nat, t = t' := ⟨t.toNat, by omega⟩
  rw [Int.toNat_natCast, Int.toNat_zero, Nat.add_zero] at HWS
  have htn : t < n := by omega
  clear hx2 q1 q2 q3 q4 q5 q6
  go_wp2_with fail
  refine HWS.out.mono ?_
  rintro e W4 ⟨rfl, hf4, hc4⟩
  obtain ⟨B2, hB2⟩ : ∃ B2, B2 = splice B1 (t * 256) [77] := ⟨_, rfl⟩
  rw [← hB2] at hf4
  have HF4 := hide hf4
  have HC4 := hide ((HC3.out.alloc (.cells #[.int .u8 77] 5)).trans hc4 (fun x hx => .inr (by obtain rfl := List.mem_singleton.1 hx; exact HBB.out)))
  have HB2 := hide hB2
  clear hf4 hc4 HF3 HC3 HWS hB2
  have hlb0 : (List.replicate (n * 256) 0).length = n * 256 := by simp
  have hlb1 : B1.length = n * 256 := by rw [HB1.out, splice_length _ _ _ (by rw [hlb0]; omega), hlb0]
  have hlb2 : B2.length = n * 256 := HF4.out.lb
  obtain ⟨X, hX⟩ : ∃ X, X = cut B2 f 0 256 := ⟨_, rfl⟩
  have hXl : X.length = 256 := by rw [hX]; exact cut_length HF4.out hfn (by omega)
  have hX8 : ∀ x ∈ X, x < 256 := fun x hx => HF4.out.b8 x (by rw [hX] at hx; exact List.mem_of_mem_drop (List.mem_of_mem_take hx))
  have HX8 := hide hX8
  obtain ⟨B3, hB3⟩ : ∃ B3, B3 = splice B2 (t * 256) X := ⟨_, rfl⟩
  have HA := hide (show cut B3 t 0 256 = X by rw [hB3]; exact cut_same (by rw [hXl, hlb2]; omega) hXl)
  have HBf := hide (show cut B3 f 0 256 = X by
    by_cases hft : f = t
    · subst hft; exact HA.out
    · have := cut_other (B := B2) (xs := X) (t := t) (at_ := 0) (i := f) (by rw [hXl, hlb2]; omega) (by omega) hft 0 256 (by omega)
      rw [Nat.add_zero] at this
      rw [hB3, this, hX])
  have HZ := hide (show ∀ i, i < n → i ≠ f → i ≠ t → cut B3 i 0 256 = List.replicate 256 0 from fun i hi h1 h2 => by
    have e1 := cut_other (B := B2) (xs := X) (t := t) (at_ := 0) (i := i) (by rw [hXl, hlb2]; omega) (by omega) h2 0 256 (by omega)
    have e2 := cut_other (B := B1) (xs := [77]) (t := t) (at_ := 0) (i := i) (by rw [hlb1]; simp; omega) (by simp) h2 0 256 (by omega)
    have e3 := cut_other (B := List.replicate (n * 256) 0) (xs := bs) (t := f) (at_ := ao) (i := i) (by rw [hlb0]; omega) hao h1 0 256 (by omega)
    rw [Nat.add_zero] at e1 e2
    rw [hB3, e1, HB2.out, e2, HB1.out, e3, cut_zero hi])
  have HR1 := hide (Read_ok HF4.out hfn)
  rw [← hX] at HR1
  have HFR4 := hide (fun W => Frames_any (w := W) (a := a) (gb := gb) (gm := gm) (c := c) (n := n) (B := B3) (M := List.replicate n fMk))
  have hn := HF4.out.n2
  obtain ⟨mm, hmm⟩ : ∃ mm : Nat, mm = min n 40 := ⟨_, rfl⟩
  have hmin : ∀ ts ty W, (Builtin.min_ ts ty #[.int .i64 n, .int .i64 40]).run Try.prog W = .ok (.int .i64 mm) W := fun ts ty W => by rw [run_min]; congr 2; omega
  have hmn : mm ≤ n := by omega
  have hm40 : mm ≤ 40 := by omega
  clear hlb0 hlb1 hlb2 hX8 hmm HB1 HB2
  have HXX := hide hX
  have HB3 := hide hB3
  clear hX hB3
  go_wp2_with fail
  refine HR1.out.mono ?_
  rintro e W5 ⟨g1, o1, cap1, rfl, hs5, hg1, hc5⟩
  have HF5 := hide (HF4.out.stay hc5)
  have HC5 := hide (HC4.out.stay hc5)
  have HS5 := hide hs5
  have HG1 := hide (show gb < g1 from Nat.lt_of_lt_of_le HF4.out.lt.2.1 hg1)
  have HMV := hide (Move_any HF5.out hfn htn)
  rw [← HXX.out, ← HB3.out] at HMV
  clear hs5 hg1 hc5 HF4 HC4 HR1
  go_wp2_with fail
  refine HMV.out.mono ?_
  rintro e W6 ⟨rfl, hf6, hc6⟩
  have HF6 := hide hf6
  have HC6 := hide (HC5.out.trans hc6 (fun x hx => .inr (by obtain rfl := List.mem_singleton.1 hx; exact HBB.out)))
  have HS6 := hide (HS5.out.chg hc6 (fun k hk => by obtain rfl := own_one hk; have := HG1.out; simp; omega))
  clear hf6 hc6 HF5 HC5 HS5 HMV
  have HFR := hide (HFR4.out W6 HF6.out)
  go_wp2_with fail
  refine HFR.out.mono ?_
  rintro e w' ⟨rfl, rfl⟩
  go_wp2_with fail
  go_loopw [69] (fun q wr => ∃ i : Nat, i ≤ mm ∧ q = .int .i64 i ∧ Chg [] W6 wr) (fun q _ => mm - (intOf q).toNat)
  case atStart => exact ⟨0, by omega, rfl, Chg.refl _ _⟩
  case round =>
    obtain ⟨i, hi, rfl, hch⟩ := hrel
    by_cases hit : i < mm
    · have HF7 := hide (HF6.out.stay hch)
      have HRI := hide (Read_ok HF7.out (show i < n by omega))
      have i1 : (0 : Int) ≤ (i : Int) := by omega
      have i2 : (i : Int) < (mm : Int) := by omega
      go_wp2_with fail
      refine HRI.out.mono ?_
      rintro e W7 ⟨g2, o2, cap2, rfl, hs7, hg2, hc7⟩
      have HC7 := hide (hch.stay hc7)
      have HW7 := hide ((HS6.out.stay hch).stay hc7)
      have HS7 := hide hs7
      have hg7 : g2 < W7.heap.size := hs7.own_lt g2 (by simp [own, Value.ownBlock])
      clear hs7 hg2 hc7 hch HF7 HRI
      by_cases hif : i = f
      · subst hif
        have hx7 := HS7.out
        rw [HBf.out] at hx7
        have st1 := run_str hx7.re HX8.out
        have st2 := run_str HW7.out.re HX8.out
        clear hx7
        generalize strB X = sx at st1 st2
        go_wp2_with fail
        clear st1 st2
        go_loopw [102] (fun q wr => ∃ k : Nat, k ≤ 256 ∧ q = .int .i64 k ∧ wr = W7) (fun q _ => 256 - (intOf q).toNat)
        case atStart => exact ⟨0, by omega, rfl, rfl⟩
        case round =>
          obtain ⟨k, hk, rfl, rfl⟩ := hrel
          by_cases hkt : k < 256
          · have k1 : (0 : Int) ≤ (k : Int) := by omega
            have k2 : (k : Int) < 256 := by omega
            go_wp2_with fail
            go_roundw
            case rel => exact ⟨k + 1, by omega, by go_num, trivial⟩
            case measure => simp [intOf]; omega
          · obtain rfl : k = 256 := by omega
            go_wp2_with fail
            go_roundw
            case rel => exact ⟨i + 1, by omega, by go_num, HC7.out⟩
            case measure => simp [intOf]; omega
      by_cases hti : i = t
      · subst hti
        have n1 : ((i : Int) == (f : Int)) = false := beq_eq_false_iff_ne.2 (by omega)
        have n2 : (i == f) = false := beq_eq_false_iff_ne.2 hif
        have n3 : ((i : Int) != (f : Int)) = true := by simp; omega
        have n4 : (i != f) = true := by simp; omega
        have hx7 := HS7.out
        rw [HA.out] at hx7
        have st1 := run_str hx7.re HX8.out
        have st2 := run_str HW7.out.re HX8.out
        clear hx7
        generalize strB X = sx at st1 st2
        go_wp2_with fail
        clear st1 st2
        go_loopw [102] (fun q wr => ∃ k : Nat, k ≤ 256 ∧ q = .int .i64 k ∧ wr = W7) (fun q _ => 256 - (intOf q).toNat)
        case atStart => exact ⟨0, by omega, rfl, rfl⟩
        case round =>
          obtain ⟨k, hk, rfl, rfl⟩ := hrel
          by_cases hkt : k < 256
          · have k1 : (0 : Int) ≤ (k : Int) := by omega
            have k2 : (k : Int) < 256 := by omega
            go_wp2_with fail
            go_roundw
            case rel => exact ⟨k + 1, by omega, by go_num, trivial⟩
            case measure => simp [intOf]; omega
          · obtain rfl : k = 256 := by omega
            go_wp2_with fail
            go_roundw
            case rel => exact ⟨i + 1, by omega, by go_num, HC7.out⟩
            case measure => simp [intOf]; omega
      have n1 : ((i : Int) == (f : Int)) = false := beq_eq_false_iff_ne.2 (by omega)
      have n2 : (i == f) = false := beq_eq_false_iff_ne.2 hif
      have n3 : ((i : Int) != (f : Int)) = true := by simp; omega
      have n4 : (i != f) = true := by simp; omega
      have m1 : ((i : Int) == (t : Int)) = false := beq_eq_false_iff_ne.2 (by omega)
      have m2 : (i == t) = false := beq_eq_false_iff_ne.2 hti
      have m3 : ((i : Int) != (t : Int)) = true := by simp; omega
      have m4 : (i != t) = true := by simp; omega
      have hz := HS7.out
      rw [HZ.out i (by omega) hif hti] at hz
      have HZ7 := hide hz
      clear hz
      go_wp2_with fail
      go_loopw [102] (fun q wr => ∃ k : Nat, k ≤ 256 ∧ q = .int .i64 k ∧ wr = W7) (fun q _ => 256 - (intOf q).toNat)
      case atStart => exact ⟨0, by omega, rfl, rfl⟩
      case round =>
        obtain ⟨k, hk, rfl, rfl⟩ := hrel
        by_cases hkt : k < 256
        · have k1 : (0 : Int) ≤ (k : Int) := by omega
          have k2 : (k : Int) < 256 := by omega
          have hc := RE.cell ucl_len HZ7.out.re (k := k) (j := 0) (by simp; omega) (by omega) rfl
          rw [Nat.mul_one, Nat.add_zero, List.getElem_replicate] at hc
          go_wp2_with fail
          go_roundw
          case rel => exact ⟨k + 1, by omega, by go_num, trivial⟩
          case measure => simp [intOf]; omega
        · obtain rfl : k = 256 := by omega
          go_wp2_with fail
          go_roundw
          case rel => exact ⟨i + 1, by omega, by go_num, HC7.out⟩
          case measure => simp [intOf]; omega
    · obtain rfl : i = mm := by omega
      have HC8 := hide (HC6.out.stay hch)
      go_wp2_with fail
      refine (HK.out _).mono ?_
      rintro e W9 ⟨rfl, hc9⟩
      have HC9 := hide (HC8.out.stay hc9)
      clear hc9
      go_wp2_with fail
      go_ret
      exact ⟨rfl, HC9.out⟩
end Go.Proofs.Ytblkfikcfgocgaa
