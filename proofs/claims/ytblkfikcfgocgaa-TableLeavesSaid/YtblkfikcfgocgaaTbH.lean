/- TableWords: the walk. -/
import Derived.Test.YtblkfikcfgocgaaTbG
namespace Go.Proofs.Ytblkfikcfgocgaa
open Go Go.RowKit

theorem wnum_back {k : Nat} {m : Int} (h : wok k m = true) : eE (wnum k m) = 0 ∧ eK (wnum k m) = k ∧ (eN (wnum k m) : Int) = m := by
  have h' := of_decide_eq_true h
  have e : wnum k m = k + 4 * m.toNat := by unfold wnum; rw [h]; rfl
  have g : eok (wnum k m) = true := by
    rw [e]
    exact decide_eq_true (by omega)
  refine ⟨by unfold eE; rw [g]; rfl, ?_, ?_⟩
  · unfold eK
    rw [g, e]
    simp
    omega
  · unfold eN
    rw [g, e]
    simp
    omega
set_option maxRecDepth 20000 in
set_option maxHeartbeats 4000000 in
theorem twords_law (k : Nat) (hk : k < 256) (n : Int) {x : Nat} (hx : x < 18446744073709551616) (w : World) :
    Calls Try.prog 7 #[.agg #[.int .u8 k, .int .i64 n], .int .u64 x] w fun e w' => e = .returned (.bool true) ∧ Chg [] w w' := by
  have HK := hide known14_any
  have HW := hide (fun W => Word_t W k n)
  have HR := hide (fun W => Word_r W k hk n)
  have HE := hide (fun W => Entry_t W x hx)
  have HF := hide (fun W => Entry_r W x hx)
  have HC := hide (show Chg [] w (w.alloc (.cells #[.int .u8 k, .int .i64 n] 59)) from (Chg.refl [] w).alloc _)
  have HB := hide (show ER (w.alloc (.cells #[.int .u8 k, .int .i64 n] 59)) w.heap.size k n from Blk.new w 59 _)
  obtain ⟨ok, hok⟩ : ∃ ok, wok k n = ok := ⟨_, rfl⟩
  have hlt := wnum_lt k n
  have HE2 := hide (fun W => Entry_t W (wnum k n) hlt)
  generalize eK x = k1 at HE HF
  generalize eN x = n1 at HE HF
  generalize eE x = e1 at HE HF
  clear hx hk
  cases ok with
  | true =>
    obtain ⟨q1, q2, q3⟩ := wnum_back hok
    rw [q1, q2, q3] at HE2
    rw [show wE k n = 0 by unfold wE; rw [hok]; rfl] at HW HR
    generalize wnum k n = y at HW HR HE2 hlt
    clear q1 q2 q3 hok
    go_enter Try.func7, Try.ntmps7
    go_wp2_with fail
    refine (HW.out _).mono ?_
    rintro e W3 ⟨rfl, hc3⟩
    have HC3 := hide (HC.out.stay hc3)
    have HB3 := hide (HB.out.stay hc3)
    obtain ⟨b0, b1, bl⟩ := HB3.out.cells
    clear hc3 HC HB
    go_wp2_with fail
    refine (HR.out _).mono ?_
    rintro e W4 ⟨rfl, hc4⟩
    have HC4 := hide (HC3.out.stay hc4)
    have HB4 := hide (HB3.out.stay hc4)
    clear b0 b1 bl hc4 HC3 HB3
    go_wp2_with fail
    refine (HE.out _).mono ?_
    rintro e W5 ⟨rfl, hc5⟩
    have HC5 := hide ((HC4.out.stay hc5).alloc (.cells #[.int .u8 k1, .int .i64 n1] 59))
    have HB5 := hide ((HB4.out.stay hc5).stay ((Chg.refl [] W5).alloc (.cells #[.int .u8 k1, .int .i64 n1] 59)))
    have HX5 := hide (show ER (W5.alloc (.cells #[.int .u8 k1, .int .i64 n1] 59)) W5.heap.size k1 n1 from Blk.new W5 59 _)
    clear hc5 HC4 HB4
    go_wp2_with fail
    refine (HF.out _).mono ?_
    rintro e W6 ⟨rfl, hc6⟩
    have HC6 := hide ((HC5.out.stay hc6).alloc (.cells #[.int .u8 k1, .int .i64 n1] 59))
    have HB6 := hide ((HB5.out.stay hc6).stay ((Chg.refl [] W6).alloc (.cells #[.int .u8 k1, .int .i64 n1] 59)))
    have HX6 := hide ((HX5.out.stay hc6).stay ((Chg.refl [] W6).alloc (.cells #[.int .u8 k1, .int .i64 n1] 59)))
    have HY6 := hide (show ER (W6.alloc (.cells #[.int .u8 k1, .int .i64 n1] 59)) W6.heap.size k1 n1 from Blk.new W6 59 _)
    clear hc6 HC5 HB5 HX5
    go_wp2_with fail
    refine (HE2.out _).mono ?_
    rintro e W7 ⟨rfl, hc7⟩
    have HC7 := hide ((HC6.out.stay hc7).alloc (.cells #[.int .u8 k, .int .i64 n] 59))
    have HX7 := hide ((HX6.out.stay hc7).stay ((Chg.refl [] W7).alloc (.cells #[.int .u8 k, .int .i64 n] 59)))
    have HY7 := hide ((HY6.out.stay hc7).stay ((Chg.refl [] W7).alloc (.cells #[.int .u8 k, .int .i64 n] 59)))
    obtain ⟨b0, b1, bl⟩ := (HB6.out.stay hc7).cells
    obtain ⟨x0, x1, xl⟩ := (HX6.out.stay hc7).cells
    obtain ⟨y0, y1, yl⟩ := (HY6.out.stay hc7).cells
    clear hc7 HC6 HB6 HX6 HY6
    go_wp2_with fail
    refine (HK.out _).mono ?_
    rintro e W8 ⟨rfl, hc8⟩
    have HC8 := hide (HC7.out.stay hc8)
    clear hc8
    go_wp2_with fail
    go_ret
    exact ⟨rfl, HC8.out⟩
  | false =>
    rw [show wE k n = 2 by unfold wE; rw [hok]; rfl] at HW HR
    generalize wnum k n = y at HW HR HE2 hlt
    clear hok HE2
    go_enter Try.func7, Try.ntmps7
    go_wp2_with fail
    refine (HW.out _).mono ?_
    rintro e W3 ⟨rfl, hc3⟩
    have HC3 := hide (HC.out.stay hc3)
    have HB3 := hide (HB.out.stay hc3)
    obtain ⟨b0, b1, bl⟩ := HB3.out.cells
    clear hc3 HC HB
    go_wp2_with fail
    refine (HR.out _).mono ?_
    rintro e W4 ⟨rfl, hc4⟩
    have HC4 := hide (HC3.out.stay hc4)
    clear b0 b1 bl hc4 HC3 HB3
    go_wp2_with fail
    refine (HE.out _).mono ?_
    rintro e W5 ⟨rfl, hc5⟩
    have HC5 := hide ((HC4.out.stay hc5).alloc (.cells #[.int .u8 k1, .int .i64 n1] 59))
    have HX5 := hide (show ER (W5.alloc (.cells #[.int .u8 k1, .int .i64 n1] 59)) W5.heap.size k1 n1 from Blk.new W5 59 _)
    clear hc5 HC4
    go_wp2_with fail
    refine (HF.out _).mono ?_
    rintro e W6 ⟨rfl, hc6⟩
    have HC6 := hide ((HC5.out.stay hc6).alloc (.cells #[.int .u8 k1, .int .i64 n1] 59))
    obtain ⟨x0, x1, xl⟩ := (HX5.out.stay hc6).cells
    clear hc6 HC5 HX5
    go_wp2_with fail
    refine (HK.out _).mono ?_
    rintro e W8 ⟨rfl, hc8⟩
    have HC8 := hide (HC6.out.stay hc8)
    clear hc8
    go_wp2_with fail
    go_ret
    exact ⟨rfl, HC8.out⟩
end Go.Proofs.Ytblkfikcfgocgaa
