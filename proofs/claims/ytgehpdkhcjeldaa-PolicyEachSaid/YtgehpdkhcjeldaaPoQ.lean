/- PolicyEach: the walk. -/
import Derived.Test.YtgehpdkhcjeldaaPoR
namespace Go.Proofs.Ytgehpdkhcjeldaa
open Go Go.RowKit

/-- eight numbers -/
@[irreducible] def ib (f : Nat → Int) : Array Value := Array.ofFn (n := 8) fun i => .int .i64 (f i)
theorem ib_size (f : Nat → Int) : (ib f).size = 8 := by unfold ib; simp
theorem ib_get (f : Nat → Int) {i : Nat} (h : i < 8) : (ib f)[i]? = some (.int .i64 (f i)) := by unfold ib; simp [h]
theorem ib_ext {f g : Nat → Int} (h : ∀ i, i < 8 → f i = g i) : ib f = ib g := by
  unfold ib
  congr 1
  funext i
  rw [h i i.2]
theorem ib_set (f : Nat → Int) (i : Nat) (v : Int) : (ib f).setIfInBounds i (.int .i64 v) = ib (fun q => if q = i then v else f q) := by
  apply Array.ext_getElem?
  intro j
  rw [Array.getElem?_setIfInBounds]
  by_cases hj : j < 8
  · rw [ib_get _ hj, ib_get _ hj]
    by_cases e : i = j
    · subst e; simp [ib_size, hj]
    · rw [if_neg e, if_neg (fun h => e h.symm)]
  · have h1 : (ib f)[j]? = none := Array.getElem?_eq_none (by rw [ib_size]; omega)
    have h2 : (ib (fun q => if q = i then v else f q))[j]? = none := Array.getElem?_eq_none (by rw [ib_size]; omega)
    rw [h1, h2, ib_size]
    split
    · rename_i e; rw [if_neg (by omega)]
    · rfl
abbrev IB (w : World) (b : Nat) (f : Nat → Int) : Prop := Blk w b 23 (ib f)
theorem IB.get {w : World} {b : Nat} {f : Nat → Int} (h : IB w b f) {i : Nat} (hi : i < 8) : w.cell? ⟨b, i, none⟩ = some (.int .i64 (f i)) := (h.cell i).trans (ib_get f hi)
theorem IB.set {w : World} {b : Nat} {f : Nat → Int} (h : IB w b f) (i : Nat) (v : Int) : IB (w.setCell ⟨b, i, none⟩ (.int .i64 v)) b (fun q => if q = i then v else f q) := by
  have := h.set_ i (.int .i64 v)
  rwa [ib_set] at this
theorem IB.ext {w : World} {b : Nat} {f g : Nat → Int} (h : IB w b f) (he : ∀ i, i < 8 → f i = g i) : IB w b g := by rw [IB, ← ib_ext he]; exact h
theorem ib_zero : ib (fun _ => 0) = #[.int .i64 0, .int .i64 0, .int .i64 0, .int .i64 0, .int .i64 0, .int .i64 0, .int .i64 0, .int .i64 0] := by unfold ib; rfl
theorem run_alloc23 (w : World) : (Instr.alloc 23 true (.tuple #[])).run Try.prog w = .ok (.pointer (some ⟨w.heap.size, 0, none⟩)) (w.alloc (.cells (ib (fun _ => 0)) 23)) := by
  simp [Instr.alloc, Sem.run_bind, newVar, newRow, run_newObj_alloc, Value.cells]
  rw [ib_zero]
theorem wpList_alloc23 {ops : Array Oper} {rest : List Oper} {o : Oper} {a : Act} {w : World} {Q : Exit → Act → World → Prop} (hg : o.guard = none) (ho : o.op = .alloc 23)
    (h : wpList Try.prog ops Q rest (a.put o.dst (.pointer (some ⟨w.heap.size, 0, none⟩))) (w.alloc (.cells (ib (fun _ => 0)) 23))) : wpList Try.prog ops Q (o :: rest) a w :=
  Great.wpList_runTo hg _ rfl _ _ (by unfold execOp; simp only [ho, Sem.run_bind, run_alloc23, Sem.run_pure, Result.andThen_ok]) h
/-- how often -/
def cntL (l : List Nat) (q : Nat) : Int := (l.count q : Nat)
theorem cntL_nil (q : Nat) : cntL [] q = 0 := rfl
theorem cntL_snoc (l : List Nat) (y q : Nat) : (if q = y then cntL l y + 1 else cntL l q) = cntL (l ++ [y]) q := by
  unfold cntL
  rw [List.count_append, List.count_singleton]
  by_cases e : q = y
  · subst e; simp
  · rw [if_neg e, if_neg (by simpa using fun h => e h.symm)]; simp
theorem cntL_le (l : List Nat) (q : Nat) : 0 ≤ cntL l q ∧ cntL l q ≤ l.length := by
  unfold cntL
  have := List.count_le_length (a := q) (l := l)
  omega
theorem cntL_nodup {l : List Nat} (h : l.Nodup) (q : Nat) : cntL l q = if q ∈ l then 1 else 0 := by
  unfold cntL
  rw [h.count]
  split <;> simp
set_option maxRecDepth 100000 in
theorem onesTo_lenB : ∀ m : Fin 256, ∀ n : Fin 9, len8 m.1 ≤ n.1 → onesTo m.1 n.1 = ones m.1 := by decide +kernel
theorem onesTo_len {m n : Nat} (hm : m < 256) (hn : n ≤ 8) (hl : len8 m ≤ n) : onesTo m n = ones m := onesTo_lenB ⟨m, hm⟩ ⟨n, by omega⟩ hl
set_option maxRecDepth 100000 in
theorem one_lowB : ∀ m : Fin 256, ones m.1 = 1 → m.1 = 2 ^ low8 m.1 := by decide +kernel
theorem rotL_round (l : List Nat) (p : Nat) : rotL l (p + l.length) = rotL l p := by unfold rotL; rw [Nat.add_mod_right]
theorem rotL_first {l : List Nat} {p k : Nat} (hk : k < l.length) : (rotL l (p + k))[0]? = (rotL l p)[k]? := by
  rw [rotL_get (by omega), rotL_get hk]
  congr 1
  simp [Nat.add_mod]
set_option maxRecDepth 20000 in
set_option maxHeartbeats 8000000 in
theorem each_law (c : Cf) {kind m : Nat} (hk : kind < 256) (hm : m < 256) (node page : Int) (hpg : page ≤ 9223372036854775807) (w : World) :
    Calls Try.prog 9 #[.agg (cg c), .agg #[.int .u8 kind, .int .u8 m], .int .i64 node, .int .i64 page] w fun e w' => e = .returned (.bool true) ∧ Chg [] w w' := by
  have HB : Hid (CB ((w.alloc (.cells (cg c) 26)).alloc (.cells #[.int .u8 kind, .int .u8 m] 45)) w.heap.size c) := hide ((Blk.new w 26 (cg c)).alloc _)
  have HP : Hid (Blk ((w.alloc (.cells (cg c) 26)).alloc (.cells #[.int .u8 kind, .int .u8 m] 45)) (w.heap.size + 1) 45 #[.int .u8 kind, .int .u8 m]) := hide (by
    have := Blk.new (w.alloc (.cells (cg c) 26)) 45 #[.int .u8 kind, .int .u8 m]
    rwa [World.size_alloc] at this)
  have HC : Hid (Chg [] w ((w.alloc (.cells (cg c) 26)).alloc (.cells #[.int .u8 kind, .int .u8 m] 45))) := hide (((Chg.refl [] w).alloc _).alloc _)
  have H23 := hide (fun (q : Int) (hq : q ≤ 9223372036854775807) W => pOrder_any c hk hm node q hq W)
  have H23p := hide (H23.out page hpg)
  have H14 := hide (fun W => rMay_any c W)
  have H24 := hide (fun k W => allowed_any (kind := kind) hm k W)
  have HKN := hide known18_any
  have HM := hide hm
  clear hk hm hpg
  go_enter Try.func9, Try.ntmps9
  go_wp2_with (first | (refine wpList_box26 rfl _ rfl rfl ?_) | (refine wpList_load26L (b := w.heap.size) (c := c) rfl _ rfl rfl ?_ ?_; (focus exact HB.out)) | (refine wpList_load45L (b := w.heap.size + 1) (kind := kind) (m := m) rfl _ rfl rfl ?_ ?_; (focus exact HP.out)))
  refine (H23p.out _).mono ?_
  rintro e W4 ⟨A, n, cap, x4, L, rfl, hx4, hs4, _, hL, hLn, hc4⟩
  have HC4 := hide (HC.out.stay hc4)
  have HB4 := hide (CB.stay_ HB.out hc4)
  have HP4 := hide (HP.out.chg hc4 List.not_mem_nil)
  have HX4 := hide hx4
  have HS4 := hide hs4
  have HL4 := hide hL
  have hn : n = L.length := by
    obtain ⟨A', c', e'⟩ := hs4.form
    injection e'
  subst hn
  clear hx4 hs4 hL hLn hc4 HB HP HC H23p
  obtain ⟨b, hb⟩ : ∃ b, b = w.heap.size := ⟨_, rfl⟩
  rw [← hb] at HB4 HP4 ⊢
  clear hb
  by_cases hx0 : x4 = 0
  rotate_left
  · have j2 : (x4 == 0) = false := by simpa using hx0
    have j4 : (x4 != 0) = true := by simpa using hx0
    go_wp2_with fail
    refine (HKN.out _).mono ?_
    rintro e W3 ⟨rfl, hc3⟩
    have HC5 := hide (HC4.out.stay hc3)
    clear hc3
    go_wp2_with fail
    go_ret
    exact ⟨rfl, HC5.out⟩
  subst hx0
  obtain ⟨hpb, hpg0, hnd0, hnd1⟩ := polE_ok HX4.out.symm
  obtain ⟨hM, hlen, hkind⟩ := polB_may hpb
  obtain ⟨v, rfl⟩ : ∃ v : Nat, node = v := ⟨node.toNat, by omega⟩
  obtain ⟨p, rfl⟩ : ∃ p : Nat, page = p := ⟨page.toNat, by omega⟩
  obtain ⟨nn, hnn⟩ : ∃ nn : Nat, c 0 = nn := ⟨(c 0).toNat, by have := hM.n1; omega⟩
  have hn8 : nn ≤ 8 := by have := hM.n8; omega
  have hn1 : 1 ≤ nn := by have := hM.n1; omega
  have hll : len8 m ≤ nn := by omega
  have hPL : PolL c kind m v p L := HL4.out rfl
  have hF := hPL.facts HM.out hnn hn8 hll
  have hLen := hF.len
  have hpos := hF.pos HM.out hn1 hn8 hll (fun h => by omega)
  rw [mayB_true hM] at H14
  have HFA := hide hF
  have HNN := hide hnn
  have HMay := hide hM
  have HPB := hide hpb
  have HPL := hide hPL
  have HKD := hide hkind
  have l0 : (0 : Int) < (L.length : Int) := by omega
  have l8 : (L.length : Int) ≤ 8 := by omega
  have nn8 : (nn : Int) ≤ 8 := by omega
  have nv : (v : Int) < (nn : Int) := by omega
  clear hpb hpg0 hnd0 hnd1 hM hlen hkind hnn hPL hF HL4 HX4
  by_cases hp : 1099511627776 < (p : Int)
  · have d1 : decide (1099511627776 < (p : Int)) = true := decide_eq_true hp
    go_wp2_with (first | (refine wpList_load26W (b := b) (c := c) _ rfl rfl ?_ ?_ ?_; (focus (simp [Region.wanted, yielded]; done)); (focus exact HB4.out)))
    refine (H14.out _).mono ?_
    rintro e W5 ⟨rfl, hc5⟩
    have HC5 := hide (HC4.out.stay hc5)
    clear hc5
    go_wp2_with fail
    refine (HKN.out _).mono ?_
    rintro e W3 ⟨rfl, hc3⟩
    have HC6 := hide (HC5.out.stay hc3)
    clear hc3
    go_wp2_with fail
    go_ret
    exact ⟨rfl, HC6.out⟩
  have d1 : decide (1099511627776 < (p : Int)) = false := decide_eq_false hp
  go_wp2_with (first | (refine wpList_load26W (b := b) (c := c) _ rfl rfl ?_ ?_ ?_; (focus (simp [Region.wanted, yielded]; done)); (focus exact HB4.out)))
  refine (H14.out _).mono ?_
  rintro e W5 ⟨rfl, hc5⟩
  have HC5 := hide (HC4.out.stay hc5)
  have HB5 := hide (CB.stay_ HB4.out hc5)
  have HP5 := hide (HP4.out.chg hc5 List.not_mem_nil)
  have HS5 := hide (HS4.out.stay hc5)
  obtain ⟨g, off, rfl⟩ := SE.addr HS5.out hpos
  clear hc5 HC4 HB4 HP4 HS4
  have hb5 : b + 1 < W5.heap.size := HP5.out.lt
  have hg5 : g < W5.heap.size := HS5.out.own_lt g (by simp [own, Value.ownBlock])
  go_wp2_with (first | (refine wpList_alloc23 rfl rfl ?_))
  obtain ⟨bs, hbs⟩ : ∃ bs, bs = W5.heap.size := ⟨_, rfl⟩
  have HI6 := hide (Blk.new W5 23 (ib (fun _ => 0)))
  have HC6 := hide (HC5.out.alloc (.cells (ib (fun _ => 0)) 23))
  have HB6 := hide (Blk.alloc HB5.out (.cells (ib (fun _ => 0)) 23))
  have HP6 := hide (HP5.out.alloc (.cells (ib (fun _ => 0)) 23))
  have HS6 := hide (HS5.out.stay ((Chg.refl [] W5).alloc (.cells (ib (fun _ => 0)) 23)))
  have HWS := hide (show w.heap.size ≤ bs by have := HC5.out.size; omega)
  rw [← hbs] at HI6 hb5 hg5 ⊢
  clear hbs HC5 HB5 HP5 HS5
  generalize W5.alloc (.cells (ib (fun _ => 0)) 23) = W6 at HI6 HC6 HB6 HP6 HS6 ⊢
  have hb50 : b < bs := by omega
  go_loopw [45] (fun t wr => ∃ i : Nat, i ≤ L.length ∧ t = .int .i64 i ∧ Hid (IB wr bs (cntL (L.take i))) ∧ Chg [bs] W6 wr) (fun t _ => L.length - (intOf t).toNat)
  case atStart => exact ⟨0, by omega, rfl, hide (IB.ext HI6.out fun q _ => rfl), Chg.refl _ _⟩
  case round =>
    obtain ⟨i, hi, rfl, HI, hch⟩ := hrel
    have HBr := hide (Blk.chg HB6.out hch (by simp; omega))
    have HPr := hide (HP6.out.chg hch (by simp; omega))
    have HSr := hide (SE.chg HS6.out hch (by intro k hk; simp [own, Value.ownBlock] at hk ⊢; omega))
    have hbsr : bs < wr.heap.size := HI.out.lt
    have g0 := CB.get (show CB wr b c from HBr.out) (i := 0) (by omega)
    rw [HNN.out] at g0
    have hbr : b < wr.heap.size := by omega
    have hpr : b + 1 < wr.heap.size := by omega
    have hgr : g < wr.heap.size := by omega
    by_cases hit : i < L.length
    · have qi := SI.cell HSr.out.re hit
      have hyn : L[i] < nn := ((HFA.out.mem _).1 (List.getElem_mem hit)).1
      have HT := hide (show L.take (i + 1) = L.take i ++ [L[i]] from List.take_succ_eq_append_getElem hit)
      generalize L[i] = y at qi hyn HT
      have hy8 : y < 8 := by omega
      have ty := IB.get HI.out hy8
      have hcb := cntL_le (L.take i) y
      have hzl : ((L.take i).length : Int) ≤ 8 := by rw [List.length_take]; omega
      have HSTO := hide (IB.ext (IB.set HI.out y (cntL (L.take i) y + 1)) fun q _ => (cntL_snoc (L.take i) y q))
      have fy := Blk.frozen HI.out y
      generalize cntL (L.take i) y = z at ty hcb HSTO
      obtain ⟨z0, z1⟩ := hcb
      have z2 : z ≤ 8 := by omega
      have i1 : (0 : Int) ≤ (i : Int) := by omega
      have i2 : (i : Int) < (L.length : Int) := by omega
      have y1 : (0 : Int) ≤ (y : Int) := by omega
      have y2 : (y : Int) < 8 := by omega
      have y3 : decide ((y : Int) < 0) = false := decide_eq_false (by omega)
      have y4 : decide ((nn : Int) ≤ (y : Int)) = false := decide_eq_false (by omega)
      have y5 : decide (nn ≤ y) = false := decide_eq_false (by omega)
      clear hzl z1
      go_wp2_with fail
      refine wp_region_t [0, 0, 0, 1, 0, 0, 0, 0, 0, 1, 0, 1, 0, 0] [none, none, none, none, none, none, some (53, false), some (53, false), some (53, false), some (53, false), some (53, false), some (53, false), some (53, false), none] (fun _ => True) (by kernel_rfl) (by kernel_rfl) (by kernel_rfl) ?_
      go_wp2_with (first | (refine wpG_skip ?_ ?_; (focus (simp [wantG, undef]; done)); go_simp) | (refine wpG_calc rfl (fun K hK => ?_)) | (refine wpG_skip ?_ ?_; (focus (simp [wantG]; done)); go_simp) | (refine wpG_take ?_ ?_; (focus (simp [wantG]; done))) | (refine wpG_pure (fun K hK => ?_); go_simp; refine hK _ _ ?_; clear hK K) | (refine wpG_deed (by decide) (fun K hK => ?_); go_simp) | (refine wpG_nil ?_))
      go_roundw
      case rel => exact ⟨i + 1, by omega, by go_num, hide (by rw [HT.out]; exact HSTO.out), (hch.drew).setCell (p := ⟨bs, y, none⟩) (.inl (by simp)) _⟩
      case measure => simp [intOf]; omega
    · obtain rfl : i = L.length := by omega
      have hfin : Hid (IB wr bs (fun q => if q ∈ L then 1 else 0)) := hide (IB.ext HI.out fun q _ => by rw [List.take_length]; exact cntL_nodup HFA.out.nd q)
      have HCr := hide (HC6.out.trans hch (fun k hk => .inr (by obtain rfl := List.mem_singleton.1 hk; exact HWS.out)))
      obtain ⟨W7, rfl⟩ : ∃ W7 : World, W7 = wr := ⟨_, rfl⟩
      have p0 := HPr.out.cell 0
      have p1 := HPr.out.cell 1
      simp at p0 p1
      clear HI hch HI6 HC6 HB6 HP6 HS6 hi hit
      go_wp2_with fail
      go_loopw [13, 73] (fun s t wr => ∃ k : Nat, k ≤ nn ∧ s = .int .i64 (onesTo m k : Nat) ∧ t = .int .i64 k ∧ Chg [] W7 wr) (fun _ t _ => nn - (intOf t).toNat)
      case atStart => exact ⟨0, by omega, rfl, rfl, Chg.refl _ _⟩
      case round =>
        obtain ⟨k, hk, rfl, rfl, hch⟩ := hrel
        have HB8 := hide (CB.stay_ (show CB W7 b c from HBr.out) hch)
        have HP8 := hide (HPr.out.chg hch List.not_mem_nil)
        have HS8 := hide (HSr.out.stay hch)
        have HI8 := hide (Blk.chg hfin.out hch List.not_mem_nil)
        clear g0 p0 p1
        by_cases hkt : k < nn
        · have hk8 : k < 8 := by omega
          have tk := IB.get HI8.out hk8
          have hmem := HFA.out.mem k
          have ol := onesTo_le m k
          have ol2 : (onesTo m k : Int) ≤ 8 := by omega
          have HST := hide (show onesTo m (k + 1) = onesTo m k + if hasZ m k then 1 else 0 from rfl)
          have HAL := hide (H24.out (k : Int))
          have k1 : (0 : Int) ≤ (k : Int) := by omega
          have k2 : (k : Int) < 8 := by omega
          have m1 : (0 : Int) ≤ (m : Int) := by omega
          have m2 : (m : Int) < 256 := by have := HM.out; omega
          have hbs8 : bs < wr.heap.size := HI8.out.lt
          obtain ⟨r, hr⟩ : ∃ r : Nat, (m : Int) / 2 ^ k % 2 = (r : Int) ∧ r = (if hasZ m k then 1 else 0) ∧ r ≤ 1 := by
            cases hz : hasZ m k with
            | true => exact ⟨1, mod_has hz, rfl, by omega⟩
            | false => exact ⟨0, mod_not hk8 hz, rfl, by omega⟩
          obtain ⟨hq, hre, hr1⟩ := hr
          have hq2 : ((m : Int) / 2 ^ k).tmod 2 = (r : Int) := by rw [Int.tmod_eq_emod_of_nonneg (pow_nn m k)]; exact hq
          have r1 : (r : Int) ≤ 1 := by omega
          have HRE := hide hre
          clear hre hmem
          cases ha : allowZ kind m (k : Int) with
          | true =>
            have hin : (if k ∈ L then (1 : Int) else 0) = 1 := if_pos ((HFA.out.mem k).2 ⟨hkt, ha⟩)
            rw [hin] at tk
            rw [ha] at HAL
            clear ha hin
            go_wp2_with (first | (refine wpList_load45L (b := b + 1) (kind := kind) (m := m) rfl _ rfl rfl ?_ ?_; (focus exact HP8.out)))
            refine (HAL.out _).mono ?_
            rintro e W9 ⟨rfl, hc9⟩
            have t9 := hc9.cell tk List.not_mem_nil
            have p1 := (HP8.out.chg hc9 List.not_mem_nil).cell 1
            simp at p1
            have hp9 : b + 1 < W9.heap.size := (HP8.out.chg hc9 List.not_mem_nil).lt
            have hbs9 : bs < W9.heap.size := (Blk.chg HI8.out hc9 List.not_mem_nil).lt
            have HC9 := hide (hch.stay hc9)
            clear hc9 tk
            go_wp2_with fail
            go_roundw
            case rel => exact ⟨k + 1, by omega, by rw [HST.out, ← HRE.out]; go_num, by go_num, HC9.out⟩
            case measure => simp [intOf]; omega
          | false =>
            have hin : (if k ∈ L then (1 : Int) else 0) = 0 := if_neg (fun h => by have := ((HFA.out.mem k).1 h).2; rw [ha] at this; cases this)
            rw [hin] at tk
            rw [ha] at HAL
            clear ha hin
            go_wp2_with (first | (refine wpList_load45L (b := b + 1) (kind := kind) (m := m) rfl _ rfl rfl ?_ ?_; (focus exact HP8.out)))
            refine (HAL.out _).mono ?_
            rintro e W9 ⟨rfl, hc9⟩
            have t9 := hc9.cell tk List.not_mem_nil
            have p1 := (HP8.out.chg hc9 List.not_mem_nil).cell 1
            simp at p1
            have hp9 : b + 1 < W9.heap.size := (HP8.out.chg hc9 List.not_mem_nil).lt
            have hbs9 : bs < W9.heap.size := (Blk.chg HI8.out hc9 List.not_mem_nil).lt
            have HC9 := hide (hch.stay hc9)
            clear hc9 tk
            go_wp2_with fail
            go_roundw
            case rel => exact ⟨k + 1, by omega, by rw [HST.out, ← HRE.out]; go_num, by go_num, HC9.out⟩
            case measure => simp [intOf]; omega
        · obtain rfl : nn = k := by omega
          have hon := onesTo_len HM.out hn8 hll
          rw [hon]
          have HC8 := hide (HCr.out.stay hch)
          obtain ⟨W8, rfl⟩ : ∃ W8 : World, W8 = wr := ⟨_, rfl⟩
          have p0 := HP8.out.cell 0
          have p1 := HP8.out.cell 1
          simp at p0 p1
          have dl0 : (L.length == 0) = false := beq_eq_false_iff_ne.2 (by omega)
          have dl1 : ((L.length : Int) == 0) = false := beq_eq_false_iff_ne.2 (by omega)
          have hb8 : b + 1 < W8.heap.size := HP8.out.lt
          have hg8 : g < W8.heap.size := HS8.out.own_lt g (by simp [own, Value.ownBlock])
          clear hch HCr hfin HBr HPr HSr hon
          by_cases k1 : kind = 1
          · have i1 : ((kind : Int) == 1) = true := by simp; omega
            have i2 : (kind == 1) = true := by simpa using k1
            have q0 := SI.cell HS8.out.re hpos
            rw [Nat.add_zero] at q0
            have ho1 : ones m = 1 := by have := HKD.out; omega
            have hlo : low8 m < nn := by have := low8_lt HM.out (show ones m ≠ 0 by omega); omega
            have hhd : L[0] = low8 m := by
              have h := HPL.out
              rw [k1] at h
              exact h.head1 HMay.out (by rw [HNN.out]; omega) hpos
            rw [hhd] at q0
            have hmm : (m : Int) = 2 ^ low8 m := by have h : m = 2 ^ low8 m := one_lowB ⟨m, HM.out⟩ ho1; exact_mod_cast h
            obtain ⟨lo, hloe⟩ : ∃ lo, lo = low8 m := ⟨_, rfl⟩
            rw [← hloe] at q0 hlo hmm
            have lo1 : (0 : Int) ≤ (lo : Int) := by omega
            have lo2 : (lo : Int) < 8 := by omega
            have m2 : (m : Int) < 256 := by have := HM.out; omega
            have HW := hide (show ((m : Int) == wrap64 ((2 : Int) ^ lo)) = true by
              have hw : wrap64 ((2 : Int) ^ lo) = (m : Int) := by rw [← hmm]; unfold wrap64; omega
              rw [hw]; simp)
            clear k1 ho1 hhd hloe hmm
            go_wp2_with fail
            refine wp_region_t [0, 1, 0, 0, 0, 1, 0, 0, 0, 3, 0, 0] [none, none, none, none, none, none, none, none, none, some (108, true), none, none] (fun _ => True) (by kernel_rfl) (by kernel_rfl) (by kernel_rfl) ?_
            go_wp2_with (first | fail | (refine wpG_calc rfl (fun K hK => ?_)) | (refine wpG_skip ?_ ?_; (focus (simp [wantG]; done)); go_simp) | (refine wpG_take ?_ ?_; (focus (simp [wantG]; done))) | (refine wpG_pure (fun K hK => ?_); go_simp; refine hK _ _ ?_; clear hK K) | (refine wpG_deed (by decide) (fun K hK => ?_); go_simp) | (refine wpG_nil ?_))
            rw [HW.out]
            go_wp2_with (first | fail | (refine wpG_calc rfl (fun K hK => ?_)) | (refine wpG_skip ?_ ?_; (focus (simp [wantG]; done)); go_simp) | (refine wpG_take ?_ ?_; (focus (simp [wantG]; done))) | (refine wpG_pure (fun K hK => ?_); go_simp; refine hK _ _ ?_; clear hK K) | (refine wpG_deed (by decide) (fun K hK => ?_); go_simp) | (refine wpG_nil ?_))
            refine (HKN.out _).mono ?_
            rintro e W9 ⟨rfl, hc9⟩
            refine hK _ _ ?_
            clear hK K
            have HC9 := hide ((HC8.out.drew).stay hc9)
            clear hc9
            go_wp2_with (first | fail | (refine wpG_calc rfl (fun K hK => ?_)) | (refine wpG_skip ?_ ?_; (focus (simp [wantG]; done)); go_simp) | (refine wpG_take ?_ ?_; (focus (simp [wantG]; done))) | (refine wpG_pure (fun K hK => ?_); go_simp; refine hK _ _ ?_; clear hK K) | (refine wpG_deed (by decide) (fun K hK => ?_); go_simp) | (refine wpG_nil ?_))
            go_ret
            exact ⟨rfl, HC9.out⟩
          have i1 : ((kind : Int) == 1) = false := by simp; omega
          have i2 : (kind == 1) = false := by simpa using k1
          by_cases k3 : kind = 3
          rotate_left
          · have i3 : ((kind : Int) == 3) = false := by simp; omega
            have i4 : (kind == 3) = false := by simpa using k3
            go_wp2_with fail
            refine (HKN.out _).mono ?_
            rintro e W9 ⟨rfl, hc9⟩
            have HC9 := hide (HC8.out.stay hc9)
            clear hc9
            go_wp2_with fail
            go_ret
            exact ⟨rfl, HC9.out⟩
          have i3 : ((kind : Int) == 3) = true := by simp; omega
          have i4 : (kind == 3) = true := by simpa using k3
          have hoo := inL_ones' HM.out
          have ho0 : 0 < ones m := by have := HKD.out; omega
          have ho8 : ones m ≤ 8 := by rw [← hoo]; exact inL_le m 8
          obtain ⟨rot, hrot⟩ : ∃ rot, rot = rotL (inL m 8) p := ⟨_, rfl⟩
          have HRL := hide (show rot.length = ones m by rw [hrot, rotL_length, hoo])
          have HRN := hide (show ∀ q, q < 8 → cntL rot q = if hasZ m (q : Nat) then 1 else 0 from fun q hq => by
            rw [hrot]
            have h1 : cntL (rotL (inL m 8) p) q = cntL (inL m 8) q := by unfold cntL; rw [(rotL_perm (inL m 8) p).count_eq]
            rw [h1, cntL_nodup (inL_nodup m 8)]
            by_cases hz : hasZ m (q : Nat) = true
            · rw [if_pos (inL_mem.2 ⟨hq, hz⟩), if_pos hz]
            · rw [if_neg (fun h => hz (inL_mem.1 h).2), if_neg hz])
          have HPO := hide (show ∀ k : Nat, k ≤ ones m → ∀ W, Calls Try.prog 23 #[.agg (cg c), .agg #[.int .u8 kind, .int .u8 m], .int .i64 v, .int .i64 ((p : Int) + (k : Int))] W fun e w' => ∃ A n cap L', e = .returned (.tuple #[.slice A n cap, .int .i64 0]) ∧ SI w' (.slice A n cap) L' ∧ PolL c 3 m v (p + k) L' ∧ Chg [] W w' from fun k hk W =>
            (H23.out ((p : Int) + (k : Int)) (by omega) W).mono fun e w' ⟨A, n, cap, x, l, he, hx, hs, _, hl, _, hc⟩ => by
              have hx0 : x = 0 := hx.trans (polE_yes HPB.out (by omega) (by omega) (by rw [HNN.out]; exact nv))
              subst hx0
              have h1 := hl rfl
              rw [k3] at h1
              exact ⟨A, n, cap, l, he, hs, by
                have e1 : ((v : Int)).toNat = v := by omega
                have e2 : ((p : Int) + (k : Int)).toNat = p + k := by omega
                rw [e1, e2] at h1
                exact h1, hc⟩)
          have HFI := hide (show ∀ k, k < ones m → ∀ L', PolL c 3 m v (p + k) L' → ∃ y, L'[0]? = some y ∧ rot[k]? = some y ∧ y < 8 from fun k hk L' h => by
            have h1 := h.head3 (by rw [hoo]; exact ho0)
            rw [rotL_first (by rw [hoo]; exact hk), ← hrot] at h1
            have hkr : k < rot.length := by rw [HRL.out]; exact hk
            refine ⟨rot[k], by rw [h1, List.getElem?_eq_getElem hkr], List.getElem?_eq_getElem hkr, ?_⟩
            have hmr : ∀ z, z ∈ rot → z ∈ inL m 8 := fun z hz => by
              rw [hrot] at hz
              exact (rotL_perm (inL m 8) p).mem_iff.1 hz
            have hm2 : rot[k] ∈ inL m 8 := hmr _ (List.getElem_mem hkr)
            exact (inL_mem.1 hm2).1)
          have HEND := hide (show ∀ L', PolL c 3 m v (p + ones m) L' → L' = L from fun L' h => by
            have h1 := HPL.out
            rw [k3] at h1
            refine PolL.unique (page := p) ?_ h1
            rcases h with ⟨e, _⟩ | ⟨e, _⟩ | ⟨e, _⟩ | ⟨_, L2, h, rfl⟩ <;> first | (cases e; done) | skip
            exact .inr (.inr (.inr ⟨rfl, L2, h, by rw [← hoo, rotL_round]⟩)))
          generalize ones m = o at HRL HPO HFI HEND ho0 ho8 ⊢
          have o8 : (o : Int) ≤ 8 := by omega
          have p40 : (p : Int) ≤ 1099511627776 := by omega
          have p00 : (0 : Int) ≤ (p : Int) := by omega
          clear k3 k1 hoo hrot
          go_wp2_with (first | (refine wpList_alloc23 rfl rfl ?_))
          obtain ⟨bf, hbf⟩ : ∃ bf, bf = W8.heap.size := ⟨_, rfl⟩
          have HF9 := hide (Blk.new W8 23 (ib (fun _ => 0)))
          have HC9 := hide (HC8.out.alloc (.cells (ib (fun _ => 0)) 23))
          have HB9 := hide (Blk.alloc HB8.out (.cells (ib (fun _ => 0)) 23))
          have HP9 := hide (HP8.out.alloc (.cells (ib (fun _ => 0)) 23))
          have HS9 := hide (HS8.out.stay ((Chg.refl [] W8).alloc (.cells (ib (fun _ => 0)) 23)))
          have HWF := hide (show w.heap.size ≤ bf by have := HC8.out.size; omega)
          rw [← hbf] at HF9 hb8 hg8 ⊢
          clear hbf HC8 HB8 HP8 HS8 HI8 p0 p1
          generalize W8.alloc (.cells (ib (fun _ => 0)) 23) = W9 at HF9 HC9 HB9 HP9 HS9 ⊢
          have hbf0 : b < bf := by omega
          go_loopw [114] (fun t wr => ∃ k : Nat, k ≤ o ∧ t = .int .i64 k ∧ Hid (IB wr bf (cntL (rot.take k))) ∧ Chg [bf] W9 wr) (fun t _ => o - (intOf t).toNat)
          case atStart => exact ⟨0, by omega, rfl, hide (IB.ext HF9.out fun q _ => rfl), Chg.refl _ _⟩
          case round =>
            obtain ⟨k, hk, rfl, HI, hch⟩ := hrel
            have HBr := hide (Blk.chg HB9.out hch (by simp; omega))
            have HPr := hide (HP9.out.chg hch (by simp; omega))
            have HSr := hide (SE.chg HS9.out hch (by intro k hk; simp [own, Value.ownBlock] at hk ⊢; omega))
            have k1 : (0 : Int) ≤ (k : Int) := by omega
            have k2 : (k : Int) ≤ 8 := by omega
            by_cases hkt : k < o
            · have HCAL := hide (HPO.out k (by omega))
              go_wp2_with (first | (refine wpList_load26L (b := b) (c := c) rfl _ rfl rfl ?_ ?_; (focus exact HBr.out)) | (refine wpList_load45L (b := b + 1) (kind := kind) (m := m) rfl _ rfl rfl ?_ ?_; (focus exact HPr.out)))
              refine (HCAL.out _).mono ?_
              rintro e W10 ⟨A10, n10, cap10, L10, rfl, hs10, hL10, hc10⟩
              obtain ⟨y, hy1, hy2, hy8⟩ := HFI.out k hkt L10 hL10
              have hl10 : 0 < L10.length := by
                rcases Nat.eq_zero_or_pos L10.length with h | h
                · rw [List.eq_nil_of_length_eq_zero h] at hy1; cases hy1
                · exact h
              have hn10 : n10 = L10.length := by
                obtain ⟨A', c', e'⟩ := hs10.form
                injection e'
              subst hn10
              obtain ⟨g10, off10, rfl⟩ := SE.addr hs10 hl10
              have q10 := SI.cell hs10.re hl10
              rw [Nat.add_zero, show L10[0] = y from by rw [List.getElem?_eq_getElem hl10] at hy1; exact Option.some.inj hy1] at q10
              have HI10 := hide (show IB W10 bf (cntL (rot.take k)) from Blk.chg HI.out hc10 List.not_mem_nil)
              have ty := IB.get HI10.out hy8
              have hcb := cntL_le (rot.take k) y
              have hzl : ((rot.take k).length : Int) ≤ 8 := by rw [List.length_take]; omega
              have hkr : k < rot.length := by rw [HRL.out]; exact hkt
              have HSTO := hide (show IB (W10.setCell ⟨bf, y, none⟩ (.int .i64 (cntL (rot.take k) y + 1))) bf (cntL (rot.take (k + 1))) from IB.ext (IB.set HI10.out y (cntL (rot.take k) y + 1)) fun q _ => by
                rw [List.take_succ_eq_append_getElem hkr, show rot[k] = y from by rw [List.getElem?_eq_getElem hkr] at hy2; exact Option.some.inj hy2]
                exact cntL_snoc (rot.take k) y q)
              have fy := Blk.frozen HI10.out y
              have hbf10 : bf < W10.heap.size := HI10.out.lt
              have hg10 : g10 < W10.heap.size := hs10.own_lt g10 (by simp [own, Value.ownBlock])
              generalize cntL (rot.take k) y = z at ty hcb HSTO
              obtain ⟨z0, z1⟩ := hcb
              have z2 : z ≤ 8 := by omega
              have HC10 := hide (hch.stay hc10)
              have y1 : (0 : Int) ≤ (y : Int) := by omega
              have y2 : (y : Int) < 8 := by omega
              have l10 : (0 : Int) < (L10.length : Int) := by omega
              have e10 : ((L10.length : Int) == 0) = false := beq_eq_false_iff_ne.2 (by omega)
              have e11 : (L10.length == 0) = false := beq_eq_false_iff_ne.2 (by omega)
              clear hzl z1 hs10 hL10 hc10 hch hy1 hy2 HI10 hkr
              go_wp2_with fail
              go_roundw
              case rel => exact ⟨k + 1, by omega, by go_num, HSTO, HC10.out.setCell (p := ⟨bf, y, none⟩) (.inl (by simp)) _⟩
              case measure => simp [intOf]; omega
            · obtain rfl : o = k := by omega
              have HCAL := hide (HPO.out o (by omega))
              have HFI2 := hide (show IB wr bf (fun q => if hasZ m (q : Nat) then 1 else 0) from IB.ext HI.out fun q hq => by rw [← HRL.out, List.take_length]; exact HRN.out q hq)
              have HCr := hide (HC9.out.trans hch (fun k hk => .inr (by obtain rfl := List.mem_singleton.1 hk; exact HWF.out)))
              obtain ⟨W10, rfl⟩ : ∃ W10 : World, W10 = wr := ⟨_, rfl⟩
              clear HI hch HF9 HC9 HB9 HP9 HS9
              go_wp2_with (first | (refine wpList_load26L (b := b) (c := c) rfl _ rfl rfl ?_ ?_; (focus exact HBr.out)) | (refine wpList_load45L (b := b + 1) (kind := kind) (m := m) rfl _ rfl rfl ?_ ?_; (focus exact HPr.out)))
              refine (HCAL.out _).mono ?_
              rintro e W11 ⟨A11, n11, cap11, L11, rfl, hs11, hL11, hc11⟩
              obtain rfl : L11 = L := HEND.out L11 hL11
              have HB11 := hide (show CB W11 b c from Blk.chg HBr.out hc11 List.not_mem_nil)
              have HP11 := hide (HPr.out.chg hc11 List.not_mem_nil)
              have HS11 := hide (HSr.out.stay hc11)
              have HF11 := hide (show IB W11 bf (fun q => if hasZ m (q : Nat) then 1 else 0) from Blk.chg HFI2.out hc11 List.not_mem_nil)
              have HC11 := hide (HCr.out.stay hc11)
              have HT11 := hide hs11
              have g0 := CB.get HB11.out (i := 0) (by omega)
              rw [HNN.out] at g0
              have p1 := HP11.out.cell 1
              simp at p1
              have hp11 : b + 1 < W11.heap.size := HP11.out.lt
              have hb11 : b < W11.heap.size := HB11.out.lt
              have hbf11 : bf < W11.heap.size := HF11.out.lt
              clear hs11 hL11 hc11 HBr HPr HSr HCr HFI2
              go_wp2_with fail
              go_loopw [154] (fun t wr => ∃ k : Nat, k ≤ nn ∧ t = .int .i64 k ∧ Chg [] W11 wr) (fun t _ => nn - (intOf t).toNat)
              case atStart => exact ⟨0, by omega, rfl, Chg.refl _ _⟩
              case round =>
                obtain ⟨k, hk, rfl, hch⟩ := hrel
                clear g0 p1
                by_cases hkt : k < nn
                · have hk8 : k < 8 := by omega
                  have tk := IB.get (show IB wr bf _ from Blk.chg HF11.out hch List.not_mem_nil) hk8
                  have p1 := (HP11.out.chg hch List.not_mem_nil).cell 1
                  simp at p1
                  have hp12 : b + 1 < wr.heap.size := Nat.lt_of_lt_of_le hp11 hch.size
                  have hbf12 : bf < wr.heap.size := Nat.lt_of_lt_of_le hbf11 hch.size
                  have k1 : (0 : Int) ≤ (k : Int) := by omega
                  have k2 : (k : Int) < 8 := by omega
                  have m1 : (0 : Int) ≤ (m : Int) := by omega
                  have m2 : (m : Int) < 256 := by have := HM.out; omega
                  cases hz : hasZ m (k : Nat) with
                  | true =>
                    rw [hz] at tk
                    simp at tk
                    have hq : (m : Int) / 2 ^ k % 2 = 1 := mod_has hz
                    have hq2 : ((m : Int) / 2 ^ k).tmod 2 = 1 := by rw [Int.tmod_eq_emod_of_nonneg (pow_nn m k)]; exact hq
                    clear hz
                    go_wp2_with fail
                    refine wp_region_t [0, 0, 1, 0, 1, 0, 0, 0, 0, 0] [none, none, none, none, none, none, none, none, none, none] (fun _ => True) (by kernel_rfl) (by kernel_rfl) (by kernel_rfl) ?_
                    go_wp2_with (first | fail | (refine wpG_calc rfl (fun K hK => ?_)) | (refine wpG_skip ?_ ?_; (focus (simp [wantG]; done)); go_simp) | (refine wpG_take ?_ ?_; (focus (simp [wantG]; done))) | (refine wpG_pure (fun K hK => ?_); go_simp; refine hK _ _ ?_; clear hK K) | (refine wpG_deed (by decide) (fun K hK => ?_); go_simp) | (refine wpG_nil ?_))
                    go_roundw
                    case rel => exact ⟨k + 1, by omega, by go_num, hch.drew⟩
                    case measure => simp [intOf]; omega
                  | false =>
                    rw [hz] at tk
                    simp at tk
                    have hq : (m : Int) / 2 ^ k % 2 = 0 := mod_not hk8 hz
                    have hq2 : ((m : Int) / 2 ^ k).tmod 2 = 0 := by rw [Int.tmod_eq_emod_of_nonneg (pow_nn m k)]; exact hq
                    clear hz
                    go_wp2_with fail
                    refine wp_region_t [0, 0, 1, 0, 1, 0, 0, 0, 0, 0] [none, none, none, none, none, none, none, none, none, none] (fun _ => True) (by kernel_rfl) (by kernel_rfl) (by kernel_rfl) ?_
                    go_wp2_with (first | fail | (refine wpG_calc rfl (fun K hK => ?_)) | (refine wpG_skip ?_ ?_; (focus (simp [wantG]; done)); go_simp) | (refine wpG_take ?_ ?_; (focus (simp [wantG]; done))) | (refine wpG_pure (fun K hK => ?_); go_simp; refine hK _ _ ?_; clear hK K) | (refine wpG_deed (by decide) (fun K hK => ?_); go_simp) | (refine wpG_nil ?_))
                    go_roundw
                    case rel => exact ⟨k + 1, by omega, by go_num, hch.drew⟩
                    case measure => simp [intOf]; omega
                · obtain rfl : nn = k := by omega
                  have HLE := hide (show L11.length ≤ 1000 by omega)
                  have HC12 := hide (HC11.out.stay hch)
                  have HS12 := hide (HS11.out.stay hch)
                  have HT12 := hide (HT11.out.stay hch)
                  clear hch HC11 HS11 HT11
                  go_wp2_with fail
                  refine (alike18_eq HS12.out.re HT12.out.re HLE.out).mono ?_
                  rintro e W13 ⟨rfl, hc13⟩
                  have HC13 := hide (HC12.out.stay hc13)
                  clear hc13
                  go_wp2_with fail
                  refine (HKN.out _).mono ?_
                  rintro e W14 ⟨rfl, hc14⟩
                  have HC14 := hide (HC13.out.stay hc14)
                  clear hc14
                  go_wp2_with fail
                  go_ret
                  exact ⟨rfl, HC14.out⟩
end Go.Proofs.Ytgehpdkhcjeldaa
