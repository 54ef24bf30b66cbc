/- PolicyOrders: the walk. -/
import Derived.Test.YtgehpdkhcjeldaaPoM
import Derived.Test.YtgehpdkhcjeldaaPoL
import Derived.Test.YtgehpdkhcjeldaaPoC
namespace Go.Proofs.Ytgehpdkhcjeldaa
open Go Go.RowKit

theorem info45 {k m : Value} : (Try.prog.info? 45).map (·.size) = some (#[k, m] : Array Value).size := by
  show _ = some 2
  kernel_rfl
theorem load45 {w : World} {b : Nat} {kind m : Nat} (h : Blk w b 45 #[.int .u8 kind, .int .u8 m]) : (loadVar 45 ⟨b, 0, none⟩).run Try.prog w = .ok (.agg #[.int .u8 kind, .int .u8 m]) w := run_loadVar_row w b 45 45 _ (0, 0) _ h Try.underlying45 rfl info45
theorem wpList_load45L {ops : Array Oper} {rest : List Oper} {o : Oper} {a : Act} {w : World} {Q : Exit → Act → World → Prop} {b kind m : Nat} (hg : o.guard = none) (x : Operand) (ho : o.op = .load 45 x)
    (hx : a.eval x = .pointer (some ⟨b, 0, none⟩)) (h0 : Blk w b 45 #[.int .u8 kind, .int .u8 m]) (h : wpList Try.prog ops Q rest (a.put o.dst (.agg #[.int .u8 kind, .int .u8 m])) w) : wpList Try.prog ops Q (o :: rest) a w :=
  wpList_load_row hg 45 x ho b hx 45 _ (0, 0) _ h0 Try.underlying45 rfl info45 h
theorem polE_ok {c : Cf} {kind m : Nat} {node page : Int} (h : polE c kind m node page = 0) : polB c kind m = true ∧ 0 ≤ page ∧ 0 ≤ node ∧ node < c 0 := by
  unfold polE at h
  by_cases hn : polB c kind m = false ∨ page < 0
  · rw [if_pos hn] at h; omega
  · rw [if_neg hn] at h
    have := firstE_zero h
    exact ⟨by cases hb : polB c kind m with
      | true => rfl
      | false => exact absurd (.inl hb) hn, by omega, this.2.1, this.2.2⟩
theorem polE_arg {c : Cf} {kind m : Nat} {node page : Int} (h : polB c kind m = false ∨ page < 0) : polE c kind m node page = 2 := by unfold polE; rw [if_pos h]
theorem polE_none {c : Cf} {kind m : Nat} {node page : Int} (h : polB c kind m = true) (hp : 0 ≤ page) (hn : node < 0 ∨ c 0 ≤ node) : polE c kind m node page = 7 := by
  unfold polE
  rw [if_neg (by rw [h]; simp; omega)]
  unfold firstE
  have hM := (polB_may h).1
  rw [if_neg (by rw [mayB_true hM]; simp), if_neg (by omega)]
theorem polE_yes {c : Cf} {kind m : Nat} {node page : Int} (h : polB c kind m = true) (hp : 0 ≤ page) (hn : 0 ≤ node) (hn2 : node < c 0) : polE c kind m node page = 0 := by
  unfold polE
  rw [if_neg (by rw [h]; simp; omega)]
  unfold firstE
  have hM := (polB_may h).1
  rw [if_neg (by rw [mayB_true hM]; simp), if_pos (by omega)]
set_option maxRecDepth 20000 in
set_option maxHeartbeats 8000000 in
theorem orders_law (c : Cf) {kind m : Nat} (hk : kind < 256) (hm : m < 256) (node page : Int) (hpg : page ≤ 9223372036854775807) (w : World) :
    Calls Try.prog 8 #[.agg (cg c), .agg #[.int .u8 kind, .int .u8 m], .int .i64 node, .int .i64 page] w fun e w' => e = .returned (.bool true) ∧ Chg [] w w' := by
  have HB : Hid (CB ((w.alloc (.cells (cg c) 26)).alloc (.cells #[.int .u8 kind, .int .u8 m] 45)) w.heap.size c) := hide ((Blk.new w 26 (cg c)).alloc _)
  have HP : Hid (Blk ((w.alloc (.cells (cg c) 26)).alloc (.cells #[.int .u8 kind, .int .u8 m] 45)) (w.heap.size + 1) 45 #[.int .u8 kind, .int .u8 m]) := hide (by
    have := Blk.new (w.alloc (.cells (cg c) 26)) 45 #[.int .u8 kind, .int .u8 m]
    rwa [World.size_alloc] at this)
  have HC : Hid (Chg [] w ((w.alloc (.cells (cg c) 26)).alloc (.cells #[.int .u8 kind, .int .u8 m] 45))) := hide (((Chg.refl [] w).alloc _).alloc _)
  have H21 := hide (fun W => pmay_any c hk hm W)
  have H22 := hide (fun W => rpmay_any c hk hm W)
  have H23 := hide (fun W => pOrder_any c hk hm node page hpg W)
  have H24 := hide (fun k W => allowed_any (kind := kind) hm k W)
  have H25 := hide (fun k W => rallowed_any (kind := kind) hm k W)
  obtain ⟨x, hx⟩ : ∃ x, polB c kind m = x := ⟨_, rfl⟩
  rw [hx] at H21 H22
  have HX := hide hx
  have HM := hide hm
  have HPG := hide hpg
  clear hx hk hm hpg
  go_enter Try.func8, Try.ntmps8
  go_wp2_with (first | (refine wpList_box26 rfl _ rfl rfl ?_))
  obtain ⟨W0, hW0⟩ : ∃ W0, W0 = (w.alloc (.cells (cg c) 26)).alloc (.cells #[.int .u8 kind, .int .u8 m] 45) := ⟨_, rfl⟩
  rw [← hW0] at HB HP HC ⊢
  clear hW0
  obtain ⟨b, hb⟩ : ∃ b, b = w.heap.size := ⟨_, rfl⟩
  rw [← hb] at HB HP ⊢
  clear hb
  refine wp_region_t [5, 5, 6, 5, 5, 6, 0] [none, none, none, none, none, none, none] (fun W => CB W b c ∧ Blk W (b + 1) 45 #[.int .u8 kind, .int .u8 m]) (by kernel_rfl) (by kernel_rfl) (by kernel_rfl) ?_
  have hS : CB W0.drew b c ∧ Blk W0.drew (b + 1) 45 #[.int .u8 kind, .int .u8 m] := ⟨HB.out, HP.out⟩
  have HCd := hide HC.out.drew
  clear HB HP HC
  go_wp2_with (first | (refine wpG_hload 26 _ rfl rfl (fun w' hw' => load26 hw'.1) hS ?_) | (refine wpG_hload 45 _ rfl rfl (fun w' hw' => load45 hw'.2) hS ?_) | (refine wpG_calc rfl (fun K hK => ?_)) | (refine wpG_skip ?_ ?_; (focus (simp [wantG]; done)); go_simp) | (refine wpG_take ?_ ?_; (focus (simp [wantG]; done))) | (refine wpG_pure (fun K hK => ?_); go_simp; refine hK _ _ ?_; clear hK K) | (refine wpG_deed (by decide) (fun K hK => ?_); go_simp) | (refine wpG_nil ?_))
  (refine wpG_keeps hS (fun K hK => ?_))
  go_simp
  refine (H21.out _).mono ?_
  rintro e W2 ⟨rfl, hc2⟩
  have hS2 : CB W2 b c ∧ Blk W2 (b + 1) 45 #[.int .u8 kind, .int .u8 m] := ⟨CB.stay_ hS.1 hc2, hS.2.chg hc2 List.not_mem_nil⟩
  refine hK _ _ hS2 ?_
  clear hK K
  have HC2 := hide (HCd.out.stay hc2)
  clear hc2 hS HCd
  go_wp2_with (first | (refine wpG_hload 26 _ rfl rfl (fun w' hw' => load26 hw'.1) hS2 ?_) | (refine wpG_hload 45 _ rfl rfl (fun w' hw' => load45 hw'.2) hS2 ?_) | (refine wpG_calc rfl (fun K hK => ?_)) | (refine wpG_skip ?_ ?_; (focus (simp [wantG]; done)); go_simp) | (refine wpG_take ?_ ?_; (focus (simp [wantG]; done))) | (refine wpG_pure (fun K hK => ?_); go_simp; refine hK _ _ ?_; clear hK K) | (refine wpG_deed (by decide) (fun K hK => ?_); go_simp) | (refine wpG_nil ?_))
  (refine wpG_keeps hS2 (fun K hK => ?_))
  go_simp
  refine (H22.out _).mono ?_
  rintro e W3 ⟨rfl, hc3⟩
  have hS3 : CB W3 b c ∧ Blk W3 (b + 1) 45 #[.int .u8 kind, .int .u8 m] := ⟨CB.stay_ hS2.1 hc3, hS2.2.chg hc3 List.not_mem_nil⟩
  refine hK _ _ hS3 ?_
  clear hK K
  have HC3 := hide (HC2.out.stay hc3)
  have HS3 := hide hS3
  have hbl : b + 1 < W3.heap.size := hS3.2.lt
  clear hc3 hS2 hS3 HC2
  have hxx : (x != x) = false := by simp
  go_wp2_with (first | (refine wpList_load26L (b := b) (c := c) rfl _ rfl rfl ?_ ?_; (focus exact HS3.out.1)) | (refine wpList_load45L (b := b + 1) (kind := kind) (m := m) rfl _ rfl rfl ?_ ?_; (focus exact HS3.out.2)) | (refine wpG_calc rfl (fun K hK => ?_)) | (refine wpG_skip ?_ ?_; (focus (simp [wantG]; done)); go_simp) | (refine wpG_take ?_ ?_; (focus (simp [wantG]; done))) | (refine wpG_pure (fun K hK => ?_); go_simp; refine hK _ _ ?_; clear hK K) | (refine wpG_deed (by decide) (fun K hK => ?_); go_simp) | (refine wpG_nil ?_))
  refine (H23.out _).mono ?_
  rintro e W4 ⟨A, n, cap, x4, L, rfl, hx4, hs4, _, hL, hLn, hc4⟩
  have HC4 := hide (HC3.out.stay hc4)
  have HB4 := hide (CB.stay_ HS3.out.1 hc4)
  have HP4 := hide (HS3.out.2.chg hc4 List.not_mem_nil)
  have HX4 := hide hx4
  have HS4 := hide hs4
  have HL4 := hide hL
  have HLN := hide hLn
  have hn : n = L.length := by
    obtain ⟨A', c', e'⟩ := hs4.form
    injection e'
  subst hn
  clear hx4 hs4 hL hLn hc4 HS3 HC3 hxx hbl
  go_wp2_with fail
  go_loopw [11] (fun i wr => ∃ k : Int, -2 ≤ k ∧ k ≤ 12 ∧ i = .int .i64 k ∧ Chg [] W4 wr) (fun i _ => (12 - intOf i).toNat)
  case atStart => exact ⟨-2, by omega, by omega, rfl, Chg.refl _ _⟩
  case round =>
    obtain ⟨k, hk1, hk2, rfl, hch⟩ := hrel
    have HBr := hide (CB.stay_ HB4.out hch)
    have HPr := hide (HP4.out.chg hch List.not_mem_nil)
    by_cases hkt : k < 12
    · go_wp2_with fail
      refine wp_region_t [5, 0, 6, 5, 0, 6, 0] [none, none, none, none, none, none, none] (fun W => Blk W (b + 1) 45 #[.int .u8 kind, .int .u8 m]) (by kernel_rfl) (by kernel_rfl) (by kernel_rfl) ?_
      have hS : Blk wr.drew (b + 1) 45 #[.int .u8 kind, .int .u8 m] := HPr.out
      obtain ⟨r, hr⟩ : ∃ r, r = allowZ kind m k := ⟨_, rfl⟩
      have H24 := hide (H24.out k)
      have H25 := hide (H25.out k)
      rw [← hr] at H24 H25
      clear hr
      have hrr : (r != r) = false := by simp
      go_wp2_with (first | (refine wpG_hload 45 _ rfl rfl (fun w' hw' => load45 hw') hS ?_) | (refine wpG_calc rfl (fun K hK => ?_)) | (refine wpG_skip ?_ ?_; (focus (simp [wantG]; done)); go_simp) | (refine wpG_take ?_ ?_; (focus (simp [wantG]; done))) | (refine wpG_pure (fun K hK => ?_); go_simp; refine hK _ _ ?_; clear hK K) | (refine wpG_deed (by decide) (fun K hK => ?_); go_simp) | (refine wpG_nil ?_))
      (refine wpG_keeps hS (fun K hK => ?_))
      go_simp
      refine (H24.out _).mono ?_
      rintro e W5 ⟨rfl, hc5⟩
      have hS5 : Blk W5 (b + 1) 45 #[.int .u8 kind, .int .u8 m] := hS.chg hc5 List.not_mem_nil
      refine hK _ _ hS5 ?_
      clear hK K
      have HC5 := hide ((hch.drew).stay hc5)
      clear hc5 hS
      go_wp2_with (first | (refine wpG_hload 45 _ rfl rfl (fun w' hw' => load45 hw') hS5 ?_) | (refine wpG_calc rfl (fun K hK => ?_)) | (refine wpG_skip ?_ ?_; (focus (simp [wantG]; done)); go_simp) | (refine wpG_take ?_ ?_; (focus (simp [wantG]; done))) | (refine wpG_pure (fun K hK => ?_); go_simp; refine hK _ _ ?_; clear hK K) | (refine wpG_deed (by decide) (fun K hK => ?_); go_simp) | (refine wpG_nil ?_))
      (refine wpG_keeps hS5 (fun K hK => ?_))
      go_simp
      refine (H25.out _).mono ?_
      rintro e W6 ⟨rfl, hc6⟩
      have hS6 : Blk W6 (b + 1) 45 #[.int .u8 kind, .int .u8 m] := hS5.chg hc6 List.not_mem_nil
      refine hK _ _ hS6 ?_
      clear hK K
      have HC6 := hide (HC5.out.stay hc6)
      clear hc6 hS5 hS6
      go_wp2_with (first | fail | (refine wpG_calc rfl (fun K hK => ?_)) | (refine wpG_skip ?_ ?_; (focus (simp [wantG]; done)); go_simp) | (refine wpG_take ?_ ?_; (focus (simp [wantG]; done))) | (refine wpG_pure (fun K hK => ?_); go_simp; refine hK _ _ ?_; clear hK K) | (refine wpG_deed (by decide) (fun K hK => ?_); go_simp) | (refine wpG_nil ?_))
      go_roundw
      case rel => exact ⟨k + 1, by omega, by omega, rfl, HC6.out⟩
      case measure => simp [intOf]; omega
    · obtain rfl : k = 12 := by omega
      have HSr := hide (HS4.out.stay hch)
      have HCr := hide (HC4.out.stay hch)
      clear HB4 HP4 HS4 HC4 hch
      have HKN := hide known18_any
      cases x with
      | false =>
        obtain rfl : x4 = 2 := by rw [HX4.out]; exact polE_arg (.inl HX.out)
        obtain rfl : L = [] := HLN.out (by omega)
        have c0 : ([] : List Nat).length = 0 := rfl
        simp only [c0]
        go_wp2_with (first | (refine wpList_load26L (b := b) (c := c) rfl _ rfl rfl ?_ ?_; (focus exact HBr.out)) | (refine wpList_load45L (b := b + 1) (kind := kind) (m := m) rfl _ rfl rfl ?_ ?_; (focus exact HPr.out)))
        refine (H22.out _).mono ?_
        rintro e W7 ⟨rfl, hc7⟩
        have HC7 := hide (HCr.out.stay hc7)
        clear hc7
        go_wp2_with fail
        refine (HKN.out _).mono ?_
        rintro e W8 ⟨rfl, hc8⟩
        have HC8 := hide (HC7.out.stay hc8)
        clear hc8
        go_wp2_with fail
        go_ret
        exact ⟨rfl, HC8.out⟩
      | true =>
        by_cases hp0 : page < 0
        · have d1 : decide (page < 0) = true := decide_eq_true hp0
          obtain rfl : x4 = 2 := by rw [HX4.out]; exact polE_arg (.inr hp0)
          obtain rfl : L = [] := HLN.out (by omega)
          have c0 : ([] : List Nat).length = 0 := rfl
          simp only [c0]
          go_wp2_with (first | (refine wpList_load26L (b := b) (c := c) rfl _ rfl rfl ?_ ?_; (focus exact HBr.out)) | (refine wpList_load45L (b := b + 1) (kind := kind) (m := m) rfl _ rfl rfl ?_ ?_; (focus exact HPr.out)))
          refine (H22.out _).mono ?_
          rintro e W7 ⟨rfl, hc7⟩
          have HC7 := hide (HCr.out.stay hc7)
          clear hc7
          go_wp2_with fail
          refine (HKN.out _).mono ?_
          rintro e W8 ⟨rfl, hc8⟩
          have HC8 := hide (HC7.out.stay hc8)
          clear hc8
          go_wp2_with fail
          go_ret
          exact ⟨rfl, HC8.out⟩
        have d1 : decide (page < 0) = false := decide_eq_false hp0
        by_cases hn0 : node < 0
        · have d2 : decide (node < 0) = true := decide_eq_true hn0
          obtain rfl : x4 = 7 := by rw [HX4.out]; exact polE_none HX.out (by omega) (.inl hn0)
          obtain rfl : L = [] := HLN.out (by omega)
          have c0 : ([] : List Nat).length = 0 := rfl
          simp only [c0]
          go_wp2_with (first | (refine wpList_load26L (b := b) (c := c) rfl _ rfl rfl ?_ ?_; (focus exact HBr.out)) | (refine wpList_load45L (b := b + 1) (kind := kind) (m := m) rfl _ rfl rfl ?_ ?_; (focus exact HPr.out)))
          refine (H22.out _).mono ?_
          rintro e W7 ⟨rfl, hc7⟩
          have HC7 := hide (HCr.out.stay hc7)
          clear hc7
          go_wp2_with fail
          refine (HKN.out _).mono ?_
          rintro e W8 ⟨rfl, hc8⟩
          have HC8 := hide (HC7.out.stay hc8)
          clear hc8
          go_wp2_with fail
          go_ret
          exact ⟨rfl, HC8.out⟩
        have d2 : decide (node < 0) = false := decide_eq_false hn0
        have hM := (polB_may HX.out).1
        obtain ⟨nn, hnn⟩ : ∃ nn : Nat, c 0 = nn := ⟨(c 0).toNat, by have := hM.n1; omega⟩
        have HNN := hide hnn
        clear hnn hM
        by_cases hn1 : (nn : Int) ≤ node
        · have d3 : decide ((nn : Int) ≤ node) = true := decide_eq_true hn1
          obtain rfl : x4 = 7 := by rw [HX4.out]; exact polE_none HX.out (by omega) (.inr (by rw [HNN.out]; exact hn1))
          obtain rfl : L = [] := HLN.out (by omega)
          have c0 : ([] : List Nat).length = 0 := rfl
          simp only [c0]
          go_wp2_with (first | (refine wpList_load26L (b := b) (c := c) rfl _ rfl rfl ?_ ?_; (focus exact HBr.out)) | (refine wpList_load45L (b := b + 1) (kind := kind) (m := m) rfl _ rfl rfl ?_ ?_; (focus exact HPr.out)))
          refine (H22.out _).mono ?_
          rintro e W7 ⟨rfl, hc7⟩
          have g7 := CB.get (CB.stay_ HBr.out hc7) (i := 0) (by omega)
          rw [HNN.out] at g7
          have hb7 : b < W7.heap.size := (CB.stay_ HBr.out hc7).lt
          have HC7 := hide (HCr.out.stay hc7)
          clear hc7
          go_wp2_with fail
          refine (HKN.out _).mono ?_
          rintro e W8 ⟨rfl, hc8⟩
          have HC8 := hide (HC7.out.stay hc8)
          clear hc8
          go_wp2_with fail
          go_ret
          exact ⟨rfl, HC8.out⟩
        have d3 : decide ((nn : Int) ≤ node) = false := decide_eq_false hn1
        obtain rfl : x4 = 0 := by rw [HX4.out]; exact polE_yes HX.out (by omega) (by omega) (by rw [HNN.out]; omega)
        obtain ⟨v, rfl⟩ : ∃ v : Nat, node = v := ⟨node.toNat, by omega⟩
        obtain ⟨p, rfl⟩ : ∃ p : Nat, page = p := ⟨page.toNat, by omega⟩
        obtain ⟨hM, hlen, hkind⟩ := polB_may HX.out
        have HRO := hide (fun W => rpOrder_any hM HM.out hlen hkind v p (by rw [HNN.out]; omega) HPG.out W)
        have HLL := hide (show PolL c kind m v p L from HL4.out rfl)
        have HLE := hide (show L.length ≤ 1000 from by
          have h8 := hM.n8
          have h1 : ∀ {k l}, IsOrd c k (c 0).toNat l → l.length ≤ 8 := fun h => by rw [h.length]; omega
          rcases HLL.out with ⟨_, h⟩ | ⟨_, h⟩ | ⟨_, L', h, rfl⟩ | ⟨_, L', h, rfl⟩
          · have := h1 h; omega
          · have := h1 h; omega
          · have := h1 h
            have := List.length_filter_le (fun k : Nat => hasZ m (k : Nat)) L'
            omega
          · have := h1 h
            have := List.length_filter_le (fun k : Nat => !hasZ m (k : Nat)) L'
            have := inL_le m 8
            rw [List.length_append, rotL_length]
            omega)
        clear hM hlen hkind
        go_wp2_with (first | (refine wpList_load26L (b := b) (c := c) rfl _ rfl rfl ?_ ?_; (focus exact HBr.out)) | (refine wpList_load45L (b := b + 1) (kind := kind) (m := m) rfl _ rfl rfl ?_ ?_; (focus exact HPr.out)))
        refine (H22.out _).mono ?_
        rintro e W7 ⟨rfl, hc7⟩
        have HB7 := hide (CB.stay_ HBr.out hc7)
        have HP7 := hide (HPr.out.chg hc7 List.not_mem_nil)
        have g7 := CB.get HB7.out (i := 0) (by omega)
        rw [HNN.out] at g7
        have hb7 : b < W7.heap.size := HB7.out.lt
        have HC7 := hide (HCr.out.stay hc7)
        have HS7 := hide (HSr.out.stay hc7)
        have p0 := HP7.out.cell 0
        have p1 := HP7.out.cell 1
        simp at p0 p1
        clear hc7
        go_wp2_with (first | (refine wpList_load26W (b := b) (c := c) _ rfl rfl ?_ ?_ ?_; (focus (simp [Region.wanted, yielded]; done)); (focus exact HB7.out)))
        refine (HRO.out _).mono ?_
        rintro e W8 ⟨A8, n8, cap8, L8, rfl, hs8, hL8, hc8⟩
        obtain rfl : L8 = L := hL8.unique HLL.out
        have HC8 := hide (HC7.out.stay hc8)
        have HS8 := hide (HS7.out.stay hc8)
        have HT8 := hide hs8
        clear hs8 hL8 hc8
        go_wp2_with fail
        refine (alike18_eq HS8.out.re HT8.out.re HLE.out).mono ?_
        rintro e W9 ⟨rfl, hc9⟩
        have HC9 := hide (HC8.out.stay hc9)
        clear hc9
        go_wp2_with fail
        refine (HKN.out _).mono ?_
        rintro e W10 ⟨rfl, hc10⟩
        have HC10 := hide (HC9.out.stay hc10)
        clear hc10
        go_wp2_with fail
        go_ret
        exact ⟨rfl, HC10.out⟩
end Go.Proofs.Ytgehpdkhcjeldaa
