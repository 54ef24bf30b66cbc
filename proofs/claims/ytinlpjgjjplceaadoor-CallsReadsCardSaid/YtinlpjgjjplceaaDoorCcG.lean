/- Results out of bytes. -/
import Derived.Test.YtinlpjgjjplceaaDoorCcF
import Derived.Test.YtinlpjgjjplceaaDoorCaK
namespace Go.Proofs.YtinlpjgjjplceaaDoor
open Go Go.RowKit

theorem results_twoRs {fn : Func} {p q : Tmp} {w : World} {b : Nat} {x : Rs} {v : Value} (h : fn.results = #[.cell p 48, .tmp q]) (tmps : Array Value) (hp : tmps.getD p undef = .pointer (some ⟨b, 0, none⟩)) (hb : XB w b x v) :
    (results fn tmps).run Tryd.prog w = .ok (.tuple #[.agg (rsc x v), tmps.getD q undef]) w := by
  have hp' : tmps[p]?.getD undef = .pointer (some ⟨b, 0, none⟩) := by simpa using hp
  have hl := run_loadVar_row w b 48 48 _ (0, 0) _ hb Tryd.underlying48 rfl infoRs
  simp [results, h, hp', asAddr, hl]
theorem XB.put {w : World} {b : Nat} {x y : Rs} {v u : Value} (h : XB w b x v) (i : Nat) (z : Value) (he : (rsc x v).setIfInBounds i z = rsc y u) : XB (w.setCell ⟨b, i, none⟩ z) b y u := by
  have := Blk.set_ h i z
  rw [he] at this
  exact this
def ReadRsR (w w' : World) (B : List Nat) (e : Ending) : Prop := ∃ A n c, e = .returned (.tuple #[.agg (rsc (readRs B) (.slice A n c)), .int .i64 (readRsE B)]) ∧ SB w' (.slice A n c) (readRs B).l ∧ ∀ k ∈ own (.slice A n c), w.heap.size ≤ k
set_option maxRecDepth 20000 in
set_option maxHeartbeats 40000000 in
theorem ReadRs_any {w : World} {v : Value} {B : List Nat} (hv : RB w v B) (h8 : ∀ b ∈ B, b < 256) (hlen : B.length ≤ 100000) :
    Calls Tryd.prog 22 #[v] w fun e w' => ReadRsR w w' B e ∧ Chg [] w w' := by
  obtain ⟨A0, c0, rfl⟩ := RE.form hv
  obtain ⟨W2, hW2⟩ : ∃ W2, W2 = (w.alloc (.cells (rsc zRs zV) 48)).alloc (.cells #[.slice A0 B.length c0, .bool false] 77) := ⟨_, rfl⟩
  have hs2 : W2.heap.size = w.heap.size + 1 + 1 := by rw [hW2]; simp
  have hb2 : XB W2 w.heap.size zRs zV := by rw [hW2]; exact (Blk.new w _ _).alloc _
  have hc2 : Chg [] w W2 := by rw [hW2]; exact ((Chg.refl [] w).alloc _).alloc _
  have hov : 0 < B.length → ∀ k ∈ own (.slice A0 B.length c0), k < w.heap.size := fun hp k hk => by
    obtain ⟨g, off, rfl⟩ := RE.addr hv hp
    have q := RE.cell ucl_len hv hp (j := 0) (by omega) rfl
    have hgl : g < w.heap.size := World.block_lt_of_cell? _ _ q
    simp [own, Value.ownBlock] at hk
    omega
  have hrd : RdV W2 (w.heap.size + 1) (.slice A0 B.length c0) B false := ⟨_, ⟨by
    rw [hW2]
    have := Blk.new (w.alloc (.cells (rsc zRs zV) 48)) 77 #[.slice A0 B.length c0, .bool false]
    rwa [World.size_alloc] at this, hv.stay hc2, fun hp hk => by have := hov hp _ hk; omega⟩, fun k hk => hk, _, _, _, rfl⟩
  have HU := hide (hrd.upto h8 hlen (most := 999) (by omega))
  have HB2 := hide hb2
  have HC2 := hide hc2
  have HW2 := hide hW2
  have HS2 := hide hs2
  have HOV := hide hov
  have H81 := hide (show ∀ b ∈ rdS B, b < 256 from fun b hb => h8 b (rdS_mem hb))
  have H82 := hide (show ∀ b ∈ rs2 B, b < 256 from fun b hb => h8 b (rdS_mem (rdS_mem hb)))
  have HL1 := hide (show (rdS B).length ≤ 100000 from Nat.le_trans (rdS_len _) hlen)
  have HL2 := hide (show (rs2 B).length ≤ 100000 from Nat.le_trans (rdS_len _) (Nat.le_trans (rdS_len _) hlen))
  have HBL := hide (show (rdS B).length ≤ B.length ∧ (rs2 B).length ≤ B.length from ⟨rdS_len _, Nat.le_trans (rdS_len _) (rdS_len _)⟩)
  have hok : okRs B = (!bsB (rs2 B) (rdB M64 (rdS B) (rdB 999 B false)) && bsS (rs2 B) == [] && mayRs ⟨rdN 999 B, rdN M64 (rdS B), bsL (rs2 B)⟩) := rfl
  have hrx : okRs B = true → readRs B = ⟨rdN 999 B, rdN M64 (rdS B), bsL (rs2 B)⟩ := fun h => by unfold readRs; rw [h]; rfl
  have hno : okRs B = false → readRs B = zRs ∧ readRsE B = 5 := fun h => by unfold readRs readRsE; rw [h]; exact ⟨rfl, rfl⟩
  have hye : okRs B = true → readRsE B = 0 := fun h => by unfold readRsE; rw [h]; rfl
  have HOK := hide hok
  have HRX := hide hrx
  have HNO := hide hno
  have HYE := hide hye
  have hn999 := rdN_le 999 B
  have hwi : IntKind.i64.wrap ((rdN 999 B : Nat) : Int) = ((rdN 999 B : Nat) : Int) := by rw [IntKind.wrap_i64]; omega
  have hBS : bsS (rs2 B) = [] ∨ 0 < (bsS (rs2 B)).length := by
    cases bsS (rs2 B) with
    | nil => exact .inl rfl
    | cons a l => exact .inr (by simp)
  have HBS := hide hBS
  clear hv h8 hlen hb2 hc2 hW2 hs2 hov hrd hok hrx hno hye hn999 hBS
  unfold ReadRsR
  obtain ⟨R, hR⟩ : ∃ R, R = readRs B := ⟨_, rfl⟩
  obtain ⟨E, hE⟩ : ∃ E, E = readRsE B := ⟨_, rfl⟩
  rw [← hR, ← hE]
  have HRE := hide (And.intro hR hE)
  clear hR hE
  go_enter Tryd.func22, Tryd.ntmps22
  go_wp2_with (first | (refine wpList_allocRs rfl rfl ?_; try simp only [World.size_alloc]; try go_simp))
  rw [← HW2.out]
  refine HU.out.mono ?_
  rintro e W3 ⟨rfl, hr3, hc3⟩
  obtain ⟨b2, h2⟩ : ∃ b, b = w.heap.size := ⟨_, rfl⟩
  obtain ⟨rb, h1⟩ : ∃ b, b = w.heap.size + 1 := ⟨_, rfl⟩
  have HR3 := hide (show RdV W3 rb (.slice A0 B.length c0) (rdS B) (rdB 999 B false) from by rw [h1]; exact hr3)
  have HB3 := hide (show XB W3 b2 zRs zV from by rw [h2]; exact Blk.chg HB2.out hc3 (by simp only [List.mem_singleton]; omega))
  have HC3 := hide (HC2.out.trans hc3 (fun y hy => .inr (by obtain rfl := List.mem_singleton.1 hy; omega)))
  have HSZ := hide (show w.heap.size + 2 ≤ W3.heap.size from by have := hc3.size; have := HS2.out; omega)
  have h1' := h1
  rw [← h2] at h1'
  rw [← h1, ← h2]
  have HNE0 := hide (show rb = b2 + 1 ∧ b2 = w.heap.size from ⟨h1', h2⟩)
  clear hr3 hc3 h1 h2 h1' HB2 HC2 HU HW2 HS2
  have HA := hide (HR3.out.any H81.out HL1.out)
  go_wp2_with fail
  refine HA.out.mono ?_
  rintro e W4 ⟨rfl, hr4, hc4⟩
  have HR4 := hide hr4
  have HB4 := hide (show XB W4 b2 zRs zV from Blk.chg HB3.out hc4 (by have := HNE0.out; simp only [List.mem_singleton]; omega))
  have HC4 := hide (HC3.out.trans hc4 (fun y hy => .inr (by obtain rfl := List.mem_singleton.1 hy; have := HNE0.out; omega)))
  have HSZ4 := hide (show w.heap.size + 2 ≤ W4.heap.size from by have := hc4.size; have := HSZ.out; omega)
  clear hr4 hc4 HR3 HB3 HC3 HSZ HA
  generalize rdN 999 B = N0 at *
  generalize rdN M64 (rdS B) = N1 at *
  go_upto_region 3 with (first | (refine wpList_allocRs rfl rfl ?_; try go_simp) | (refine wpList_storeRs (b := W4.heap.size) (y := ⟨(N0 : Nat), N1, []⟩) (u := zV) rfl _ _ rfl rfl rfl rfl (Blk.new W4 _ _) ?_; intro W5 h5 hc5))
  obtain ⟨bx, h3⟩ : ∃ b, b = W4.heap.size := ⟨_, rfl⟩
  have HNE := hide (show rb ≠ b2 ∧ bx ≠ b2 ∧ bx ≠ rb ∧ w.heap.size ≤ b2 ∧ w.heap.size ≤ rb ∧ w.heap.size ≤ bx ∧ (∀ k, k < w.heap.size → k ≠ bx ∧ k ≠ rb ∧ k ≠ b2) from by
    have := HNE0.out
    have := HSZ4.out
    refine ⟨by omega, by omega, by omega, by omega, by omega, by omega, fun k hk => by omega⟩)
  rw [← h3] at h5 hc5 ⊢
  have hc45 : Chg [] W4 W5 := ((Chg.refl [] W4).alloc _).trans hc5 (fun y hy => .inr (by obtain rfl := List.mem_singleton.1 hy; omega))
  have HX5 := hide h5
  have HB5 := hide (XB.stay HB4.out hc45)
  have HR5 := hide (HR4.out.chg hc45 List.not_mem_nil (fun _ _ _ => List.not_mem_nil))
  have HC5 := hide (HC4.out.stay hc45)
  clear h5 hc5 hc45 h3 HB4 HR4 HC4 HSZ4 HNE0
  have HBY := hide (HR5.out.bytes (S := rs2 B) H82.out HL2.out)
  go_wp2_with fail
  refine HBY.out.mono ?_
  rintro e W6 ⟨⟨A9, n9, k9, rfl, hs9, hn9⟩, hr6, hc6⟩
  have HX6 := hide (show XB W6 bx ⟨(N0 : Nat), N1, []⟩ zV from Blk.chg HX5.out hc6 (by simpa using HNE.out.2.2.1))
  have HB6 := hide (show XB W6 b2 zRs zV from Blk.chg HB5.out hc6 (by simpa using (Ne.symm HNE.out.1)))
  have HC6 := hide (HC5.out.trans hc6 (fun y hy => .inr (by obtain rfl := List.mem_singleton.1 hy; exact HNE.out.2.2.2.2.1)))
  have HN9 := hide (show ∀ k ∈ own (.slice A9 n9 k9), w.heap.size ≤ k from fun k hk => Nat.le_trans HC5.out.size (hn9 k hk))
  have HR6 := hide hr6
  have HS6 := hide hs9
  obtain ⟨-, -, x2, xl, xf⟩ := HX6.out.cells
  clear hs9 hn9 hr6 hc6 HX5 HB5 HR5 HC5 HBY
  have HBLS := hide (show (bsS (rs2 B)).length ≤ B.length from Nat.le_trans (bsS_len _) HBL.out.2)
  go_upto_region 4 with (fail)
  have hs7 : Chg [bx] W6 (W6.setCell ⟨bx, 2, none⟩ (.slice A9 n9 k9)) := (Chg.refl [bx] W6).setCell (p := ⟨bx, 2, none⟩) (.inl (by simp)) _
  have HX7 := hide (show XB (W6.setCell ⟨bx, 2, none⟩ (.slice A9 n9 k9)) bx ⟨(N0 : Nat), N1, bsL (rs2 B)⟩ (.slice A9 n9 k9) from XB.put HX6.out 2 _ rfl)
  have HB7 := hide (show XB (W6.setCell ⟨bx, 2, none⟩ (.slice A9 n9 k9)) b2 zRs zV from Blk.chg HB6.out hs7 (by simpa using Ne.symm HNE.out.2.1))
  have HR7 := hide (show RdV (W6.setCell ⟨bx, 2, none⟩ (.slice A9 n9 k9)) rb (.slice A0 B.length c0) (bsS (rs2 B)) (bsB (rs2 B) (rdB M64 (rdS B) (rdB 999 B false))) from HR6.out.chg hs7 (by simpa using Ne.symm HNE.out.2.2.1) (fun hp k hk hk' => by
    obtain rfl := List.mem_singleton.1 hk'
    have h1 := HBLS.out
    exact (HNE.out.2.2.2.2.2.2 _ (HOV.out (by omega) _ hk)).1 rfl))
  have HS7 := hide (show SB (W6.setCell ⟨bx, 2, none⟩ (.slice A9 n9 k9)) (.slice A9 n9 k9) (bsL (rs2 B)) from HS6.out.chg hs7 (fun k hk hk' => SB.not_res HS6.out HX6.out (by obtain rfl := List.mem_singleton.1 hk'; exact hk)))
  have HC7 := hide (HC6.out.trans hs7 (fun y hy => .inr (by obtain rfl := List.mem_singleton.1 hy; exact HNE.out.2.2.2.2.2.1)))
  clear hs7 x2 xl xf HX6 HB6 HR6 HS6 HC6
  generalize W6.setCell ⟨bx, 2, none⟩ (.slice A9 n9 k9) = W7 at *
  generalize bsL (rs2 B) = L9 at *
  generalize bsS (rs2 B) = S0 at *
  generalize bsB (rs2 B) (rdB M64 (rdS B) (rdB 999 B false)) = bad0 at *
  obtain ⟨A', n', c', hn', g0, g1, gl⟩ := HR7.out.cells
  have n9l : n9 = L9.length := (RB_cap HS7.out.re).1
  subst n9l
  subst hn'
  have HM := hide (fun W => MayRs_any ⟨(N0 : Nat), N1, L9⟩ (.slice A9 L9.length k9) ⟨_, _, rfl⟩ W)
  have hOK := HOK.out
  cases bad0 with
  | true =>
    have hok : okRs B = false := by rw [hOK]; rfl
    obtain rfl : R = zRs := by rw [HRE.out.1]; exact (HNO.out hok).1
    obtain rfl : E = 5 := by rw [HRE.out.2]; exact (HNO.out hok).2
    clear hOK hok HM
    go_wp2_with (first | (refine wpList_storeRs (b := b2) (y := zRs) (u := zV) rfl _ _ rfl rfl rfl rfl HB7.out ?_; intro W8 h8 hc8))
    refine bodyPost_ret (v := .tuple #[.agg (rsc zRs zV), .int .i64 5]) (results_twoRs (p := 2) (q := 3) rfl _ rfl h8) rfl ⟨⟨none, 0, 0, rfl, SE.nil _ _ _ _, fun _ h => (own_nil h).elim⟩, ?_⟩
    exact HC7.out.trans hc8 (fun y hy => .inr (by obtain rfl := List.mem_singleton.1 hy; exact HNE.out.2.2.2.1))
  | false =>
    rcases HBS.out with hS | hpos
    · subst hS
      have hOK2 : okRs B = mayRs ⟨(N0 : Nat), N1, L9⟩ := by rw [hOK]; simp
      clear hOK
      cases hm : mayRs ⟨(N0 : Nat), N1, L9⟩ with
      | false =>
        have hok : okRs B = false := by rw [hOK2, hm]
        obtain rfl : R = zRs := by rw [HRE.out.1]; exact (HNO.out hok).1
        obtain rfl : E = 5 := by rw [HRE.out.2]; exact (HNO.out hok).2
        rw [hm] at HM
        clear hOK2 hok hm
        go_wp2_with (first | (refine wpList_loadRsW (b := bx) _ rfl rfl ?_ HX7.out ?_; (focus (simp [Region.wanted, yielded, Act.put]; done))))
        refine (HM.out _).mono ?_
        rintro e W8 ⟨rfl, hc8⟩
        have HB8 := hide (XB.stay HB7.out hc8)
        have HC8 := hide (HC7.out.stay hc8)
        clear hc8
        go_wp2_with (first | (refine wpList_storeRs (b := b2) (y := zRs) (u := zV) rfl _ _ rfl rfl rfl rfl HB8.out ?_; intro W9 h9 hc9))
        refine bodyPost_ret (v := .tuple #[.agg (rsc zRs zV), .int .i64 5]) (results_twoRs (p := 2) (q := 3) rfl _ rfl h9) rfl ⟨⟨none, 0, 0, rfl, SE.nil _ _ _ _, fun _ h => (own_nil h).elim⟩, ?_⟩
        exact HC8.out.trans hc9 (fun y hy => .inr (by obtain rfl := List.mem_singleton.1 hy; exact HNE.out.2.2.2.1))
      | true =>
        have hok : okRs B = true := by rw [hOK2, hm]
        obtain rfl : R = ⟨(N0 : Nat), N1, L9⟩ := by rw [HRE.out.1]; exact HRX.out hok
        obtain rfl : E = 0 := by rw [HRE.out.2]; exact HYE.out hok
        rw [hm] at HM
        clear hOK2 hok hm
        go_wp2_with (first | (refine wpList_loadRsW (b := bx) _ rfl rfl ?_ HX7.out ?_; (focus (simp [Region.wanted, yielded, Act.put]; done))))
        refine (HM.out _).mono ?_
        rintro e W8 ⟨rfl, hc8⟩
        have HB8 := hide (XB.stay HB7.out hc8)
        have HX8 := hide (XB.stay HX7.out hc8)
        have HS8 := hide (HS7.out.stay hc8)
        have HC8 := hide (HC7.out.stay hc8)
        clear hc8
        go_wp2_with (first | (refine wpList_loadRs (b := bx) rfl _ rfl rfl HX8.out ?_) | (refine wpList_storeRs (b := b2) (y := ⟨(N0 : Nat), N1, L9⟩) (u := .slice A9 L9.length k9) rfl _ _ rfl rfl rfl rfl HB8.out ?_; intro W9 h9 hc9))
        refine bodyPost_ret (v := .tuple #[.agg (rsc ⟨(N0 : Nat), N1, L9⟩ (.slice A9 L9.length k9)), .int .i64 0]) (results_twoRs (p := 2) (q := 3) rfl _ rfl h9) rfl ⟨⟨A9, L9.length, k9, rfl, ?_, by simpa [own] using HN9.out⟩, ?_⟩
        · exact HS8.out.chg hc9 (fun k hk hk' => SB.not_res HS8.out HB8.out (by obtain rfl := List.mem_singleton.1 hk'; exact hk))
        · exact HC8.out.trans hc9 (fun y hy => .inr (by obtain rfl := List.mem_singleton.1 hy; exact HNE.out.2.2.2.1))
    · have hnS : ¬ S0 = [] := fun e => by rw [e] at hpos; simp at hpos
      have hok : okRs B = false := by
        rw [hOK]
        cases S0 with
        | nil => exact absurd rfl hnS
        | cons a l => rfl
      obtain rfl : R = zRs := by rw [HRE.out.1]; exact (HNO.out hok).1
      obtain rfl : E = 5 := by rw [HRE.out.2]; exact (HNO.out hok).2
      have hpI : (0 : Int) < (S0.length : Int) := by omega
      have d1 : decide ((0 : Int) < (S0.length : Int)) = true := decide_eq_true hpI
      have d2 : decide (0 < S0.length) = true := decide_eq_true hpos
      clear hOK hok HM
      go_wp2_with (first | (refine wpList_storeRs (b := b2) (y := zRs) (u := zV) rfl _ _ rfl rfl rfl rfl HB7.out ?_; intro W8 h8 hc8))
      refine bodyPost_ret (v := .tuple #[.agg (rsc zRs zV), .int .i64 5]) (results_twoRs (p := 2) (q := 3) rfl _ rfl h8) rfl ⟨⟨none, 0, 0, rfl, SE.nil _ _ _ _, fun _ h => (own_nil h).elim⟩, ?_⟩
      exact HC7.out.trans hc8 (fun y hy => .inr (by obtain rfl := List.mem_singleton.1 hy; exact HNE.out.2.2.2.1))
end Go.Proofs.YtinlpjgjjplceaaDoor
