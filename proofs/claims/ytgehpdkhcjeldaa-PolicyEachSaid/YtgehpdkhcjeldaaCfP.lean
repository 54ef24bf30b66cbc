/- ConfigNear: the walk. -/
import Derived.Test.YtgehpdkhcjeldaaCfL
namespace Go.Proofs.Ytgehpdkhcjeldaa
open Go Go.RowKit

/-- eight marks -/
@[irreducible] def sb (f : Nat → Bool) : Array Value := Array.ofFn (n := 8) fun i => .bool (f i)
theorem sb_size (f : Nat → Bool) : (sb f).size = 8 := by unfold sb; simp
theorem sb_get (f : Nat → Bool) {i : Nat} (h : i < 8) : (sb f)[i]? = some (.bool (f i)) := by unfold sb; simp [h]
theorem sb_set (f : Nat → Bool) (i : Nat) (v : Bool) : (sb f).setIfInBounds i (.bool v) = sb (fun q => if q = i then v else f q) := by
  apply Array.ext_getElem?
  intro j
  rw [Array.getElem?_setIfInBounds]
  by_cases hj : j < 8
  · rw [sb_get _ hj, sb_get _ hj]
    by_cases e : i = j
    · subst e; simp [sb_size, hj]
    · rw [if_neg e, if_neg (fun h => e h.symm)]
  · have h1 : (sb f)[j]? = none := Array.getElem?_eq_none (by rw [sb_size]; omega)
    have h2 : (sb (fun q => if q = i then v else f q))[j]? = none := Array.getElem?_eq_none (by rw [sb_size]; omega)
    rw [h1, h2, sb_size]
    split
    · rename_i e; rw [if_neg (by omega)]
    · rfl
abbrev SB (w : World) (b : Nat) (f : Nat → Bool) : Prop := Blk w b 39 (sb f)
theorem SB.get {w : World} {b : Nat} {f : Nat → Bool} (h : SB w b f) {i : Nat} (hi : i < 8) : w.cell? ⟨b, i, none⟩ = some (.bool (f i)) := (h.cell i).trans (sb_get f hi)
theorem SB.set {w : World} {b : Nat} {f : Nat → Bool} (h : SB w b f) (i : Nat) (v : Bool) : SB (w.setCell ⟨b, i, none⟩ (.bool v)) b (fun q => if q = i then v else f q) := by
  have := h.set_ i (.bool v)
  rwa [sb_set] at this
theorem sb_zero : sb (fun _ => false) = #[.bool false, .bool false, .bool false, .bool false, .bool false, .bool false, .bool false, .bool false] := by unfold sb; rfl
theorem zero39 : ∀ w, (zeroValue 39).run Try.prog w = .ok (.agg (sb (fun _ => false))) w := by
  have h : (Try.prog.info? 39).map (fun i => (i.zero, i.size)) = some (some (.agg #[.bool false, .bool false, .bool false, .bool false, .bool false, .bool false, .bool false, .bool false]), 8) := by kernel_rfl
  rw [sb_zero]
  exact (zero_of_info h).1
theorem run_alloc39 (w : World) : (Instr.alloc 39 true (.tuple #[])).run Try.prog w = .ok (.pointer (some ⟨w.heap.size, 0, none⟩)) (w.alloc (.cells (sb (fun _ => false)) 39)) := by
  simp [Instr.alloc, Sem.run_bind, zero39, newVar, newRow, run_newObj_alloc, Value.cells]
  rw [sb_zero]
theorem wpList_alloc39 {ops : Array Oper} {rest : List Oper} {o : Oper} {a : Act} {w : World} {Q : Exit → Act → World → Prop} (hg : o.guard = none) (ho : o.op = .alloc 39)
    (h : wpList Try.prog ops Q rest (a.put o.dst (.pointer (some ⟨w.heap.size, 0, none⟩))) (w.alloc (.cells (sb (fun _ => false)) 39))) : wpList Try.prog ops Q (o :: rest) a w :=
  Great.wpList_runTo hg _ rfl _ _ (by unfold execOp; simp only [ho, Sem.run_bind, run_alloc39, Sem.run_pure, Result.andThen_ok]) h
set_option maxHeartbeats 4000000 in
set_option maxRecDepth 20000 in
theorem near_law (c : Cf) (node : Int) (w : World) : Calls Try.prog 5 #[.agg (cg c), .int .i64 node] w fun e w' => e = .returned (.bool true) ∧ Chg [] w w' := by
  have HB := hide (Blk.new w 26 (cg c))
  have HC := hide (show Chg [] w (w.alloc (.cells (cg c) 26)) from (Chg.refl [] w).alloc _)
  have HO := hide (fun W => Order_any c node W)
  go_enter Try.func5, Try.ntmps5
  go_wp2_with (first | (refine wpList_box26 rfl _ rfl rfl ?_) | (refine wpList_load26L (b := w.heap.size) (c := c) rfl _ rfl rfl ?_ ?_; (focus exact HB.out)))
  refine (HO.out _).mono ?_
  rintro e W2 ⟨A, n, cap, x, l, rfl, hx, hs, hown, h0, -, hc2⟩
  have HC2 := hide (HC.out.stay hc2)
  have HB2 := hide (HB.out.chg hc2 List.not_mem_nil)
  have hw2 := (HC.out.stay hc2).size
  clear hc2 HB HC HO
  by_cases hx0 : x = 0
  rotate_left
  · have j2 : (x == 0) = false := by simpa using hx0
    have j4 : (x != 0) = true := by simpa using hx0
    have HS := hide hs
    clear hs h0 hown hx
    go_wp2_with fail
    refine (known_any _).mono ?_
    rintro e W3 ⟨rfl, hc3⟩
    go_wp2_with fail
    go_ret
    exact ⟨rfl, HC2.out.stay hc3⟩
  subst hx0
  obtain ⟨hM, hn0, hnn⟩ := firstE_zero hx.symm
  have hO := h0 rfl
  obtain ⟨v, rfl⟩ : ∃ v : Nat, node = v := ⟨node.toNat, by omega⟩
  have hlen := hO.length
  obtain ⟨A', c', e'⟩ := hs.form
  obtain rfl : n = l.length := by injection e'
  clear e' A' c' h0 hx
  have hl1 : 1 ≤ l.length := by have := hM.n1; omega
  have hl8 : l.length ≤ 8 := by have := hM.n8; omega
  obtain ⟨g, off, rfl⟩ := SE.addr hs (by omega)
  have hgb := hown g (by simp [own, Value.ownBlock])
  rw [World.size_alloc] at hgb
  have hh := hO.head hM hnn (by omega)
  have q0 := SI.cell hs.re (k := 0) (by omega)
  rw [hh] at q0
  simp only [Nat.add_zero] at q0
  have g0 := CB.get HB2.out (i := 0) (by omega)
  have hc0 : c 0 = (l.length : Int) := by have := hM.n1; omega
  rw [hc0] at g0
  have n8 : (l.length : Int) ≤ 8 := by omega
  have HO := hide hO
  have HM := hide hM
  have HC0 := hide hc0
  have HS := hide hs
  have hbl := HB2.out.lt
  have hgl : g < W2.heap.size := hs.own_lt g (by simp [own, Value.ownBlock])
  have hv8 : v < 8 := by omega
  clear hO hM hs hown hh hn0 hnn hc0 hlen
  have hlz : (0 : Int) < (l.length : Int) := by omega
  go_wp2_with (first | (refine wpList_alloc39 rfl rfl ?_))
  obtain ⟨W3, hW3⟩ : ∃ W3, W3 = W2.alloc (.cells (sb (fun _ => false)) 39) := ⟨_, rfl⟩
  have hc3 : Chg [] W2 W3 := by rw [hW3]; exact (Chg.refl [] W2).alloc _
  have hs3 : SB W3 W2.heap.size (fun _ => false) := by rw [hW3]; exact Blk.new W2 39 _
  rw [← hW3]
  have HB3 := hide (HB2.out.chg hc3 List.not_mem_nil)
  have HS3 := hide (HS.out.stay hc3)
  have HC3 := hide (HC2.out.stay hc3)
  have hbb : w.heap.size ≠ W2.heap.size := by omega
  have hgs : g ≠ W2.heap.size := by omega
  have hws : w.heap.size ≤ W2.heap.size := hw2
  have hwW : w.heap.size ≤ W2.heap.size := hw2
  clear hW3 hc3 HB2 HS HC2 q0 g0 hbl hgl hw2 hgb
  generalize W2.heap.size = bs at hs3 hbb hgs hws hwW ⊢
  obtain ⟨b, hbe⟩ : ∃ b, b = w.heap.size := ⟨_, rfl⟩
  rw [← hbe] at HB3 hbb hws ⊢
  clear hbe
  go_loopw [39] (fun i wr => ∃ (k : Nat) (f : Nat → Bool), k ≤ l.length ∧ i = .int .i64 k ∧ Hid (SB wr bs f) ∧ Hid (∀ v, f v = true ↔ v ∈ l.take k) ∧ Chg [bs] W3 wr) (fun i _ => l.length - (intOf i).toNat)
  case atStart => exact ⟨0, fun _ => false, by omega, rfl, hide hs3, hide (by simp), Chg.refl _ _⟩
  case round =>
    obtain ⟨k, f, hk, rfl, hf, hfv, hch⟩ := hrel
    by_cases hkt : k < l.length
    · have HBr := HB3.out.chg hch (by simp; exact hbb)
      have hsr : SI wr (.slice (some ⟨g, off, none⟩) l.length cap) l := HS3.out.chg hch (by intro x hx; rw [own_at] at hx; obtain rfl := List.mem_singleton.1 hx; simp; exact hgs)
      have qk := SI.cell hsr.re hkt
      obtain ⟨y, hy⟩ : ∃ y, l[k] = y := ⟨_, rfl⟩
      have hyl : y < l.length := by
        have := HO.out.mem.1 (List.getElem_mem hkt)
        rw [hy, HC0.out] at this
        omega
      rw [hy] at qk
      have g0 := CB.get HBr (i := 0) (by omega)
      rw [HC0.out] at g0
      have hyf : f y = false := by
        rw [Bool.eq_false_iff]
        intro h
        have h2 := (hfv.out y).1 h
        obtain ⟨j, hj, e⟩ := List.getElem_of_mem h2
        rw [List.getElem_take] at e
        have hjk : j < k := by rw [List.length_take] at hj; omega
        have := (List.nodup_iff_pairwise_ne.1 HO.out.nodup)
        have := List.pairwise_iff_getElem.1 this j k (by omega) hkt hjk
        exact this (e.trans hy.symm)
      have sy := hf.out.get (i := y) (by omega)
      rw [hyf] at sy
      have sf := Blk.frozen hf.out y
      have HY := hide hy
      have k1 : (0 : Int) ≤ (k : Int) := by omega
      have k2 : (k : Int) < (l.length : Int) := by omega
      have y1 : (0 : Int) ≤ (y : Int) := by omega
      have y2 : (y : Int) < 8 := by omega
      have y3 : (y : Int) < (l.length : Int) := by omega
      have hbr := HBr.lt
      have hgr : g < wr.heap.size := hsr.own_lt g (by simp [own, Value.ownBlock])
      have hsl := hf.out.lt
      have d1 : decide ((y : Int) < 0) = false := decide_eq_false (by omega)
      have d2 : decide ((l.length : Int) ≤ (y : Int)) = false := decide_eq_false (by omega)
      have d3 : decide (l.length ≤ y) = false := decide_eq_false (by omega)
      have HSB := hide (hf.out.set y true)
      have hset : ∀ v, ((fun q => if q = y then true else f q) v) = true ↔ v ∈ l.take (k + 1) := fun v => by
        rw [List.take_succ_eq_append_getElem hkt, List.mem_append, List.mem_singleton, hy, ← hfv.out v]
        simp only
        split
        · rename_i e; simp [e]
        · rename_i e; simp [e]
      have HSET := hide hset
      clear hset hy hyf hsr
      have hbb' : bs ≠ b := fun e => hbb e.symm
      have hgs' : bs ≠ g := fun e => hgs e.symm
      by_cases hk0 : k = 0
      · subst hk0
        simp only [Nat.add_zero] at qk
        go_wp2_with fail
        refine wp_region_t [0, 0, 0, 1, 0, 0, 0, 0, 0, 1, 0, 1, 0, 0, 0, 0, 0, 0, 1, 0, 1, 0] [none, none, none, none, none, none, some (47, false), some (47, false), some (47, false), some (47, false), some (47, false), some (47, false), some (47, false), none, none, some (56, false), some (56, false), some (56, false), some (56, false), some (56, false), some (56, false), none] (fun _ => True) (by kernel_rfl) (by kernel_rfl) (by kernel_rfl) ?_
        go_wp2_with (first | fail | (refine wpG_calc rfl (fun K hK => ?_)) | (refine wpG_skip ?_ ?_; (focus (simp [wantG]; done)); go_simp) | (refine wpG_take ?_ ?_; (focus (simp [wantG]; done))) | (refine wpG_pure (fun K hK => ?_); go_simp; refine hK _ _ ?_; clear hK K) | (refine wpG_deed (by decide) (fun K hK => ?_); go_simp) | (refine wpG_nil ?_))
        go_roundw
        case rel => exact ⟨0 + 1, _, by omega, by go_num, hide HSB.out.drew, HSET, (hch.drew).setCell (p := ⟨bs, y, none⟩) (.inl (by simp)) _⟩
        case measure => simp [intOf]; omega
      · obtain ⟨j, rfl⟩ : ∃ j, k = j + 1 := ⟨k - 1, by omega⟩
        have qj := SI.cell (SE.re (HS3.out.chg hch (by intro x hx; rw [own_at] at hx; obtain rfl := List.mem_singleton.1 hx; simp; exact hgs))) (k := j) (by omega)
        obtain ⟨u, hu⟩ : ∃ u, l[j] = u := ⟨_, rfl⟩
        have hul : u < l.length := by
          have := HO.out.mem.1 (List.getElem_mem (show j < l.length by omega))
          rw [hu, HC0.out] at this
          omega
        rw [hu] at qj
        have hN := HO.out.le (i := j) (j := j + 1) hkt (by omega)
        rw [hu, HY.out, Int.toNat_natCast] at hN
        have e1 := CB.get HBr (i := 26 + v * 8 + u) (by omega)
        have e2 := CB.get HBr (i := 26 + v * 8 + y) (by omega)
        unfold Near at hN
        obtain ⟨da, ha⟩ : ∃ x, c (26 + v * 8 + u) = x := ⟨_, rfl⟩
        obtain ⟨db, hb⟩ : ∃ x, c (26 + v * 8 + y) = x := ⟨_, rfl⟩
        rw [ha] at e1
        rw [hb] at e2
        rw [ha, hb] at hN
        have u1 : (0 : Int) ≤ (u : Int) := by omega
        have u2 : (u : Int) < 8 := by omega
        have v1 : (0 : Int) ≤ (v : Int) := by omega
        have v2 : (v : Int) < 8 := by omega
        have j1 : (0 : Int) ≤ (j : Int) := by omega
        have j2 : (j : Int) < (l.length : Int) := by omega
        have k3 : (0 : Int) < ((j + 1 : Nat) : Int) := by omega
        clear ha hb hu hk0
        rcases hN with hN | ⟨rfl, hN⟩
        · have t1 : decide (db < da) = false := decide_eq_false (by omega)
          have t2 : (da == db) = false := by simp; omega
          go_wp2_with fail
          refine wp_region_t [0, 0, 0, 1, 0, 0, 0, 0, 0, 1, 0, 1, 0, 0, 0, 0, 0, 0, 1, 0, 1, 0] [none, none, none, none, none, none, some (47, false), some (47, false), some (47, false), some (47, false), some (47, false), some (47, false), some (47, false), none, none, some (56, false), some (56, false), some (56, false), some (56, false), some (56, false), some (56, false), none] (fun _ => True) (by kernel_rfl) (by kernel_rfl) (by kernel_rfl) ?_
          go_wp2_with (first | fail | (refine wpG_calc rfl (fun K hK => ?_)) | (refine wpG_skip ?_ ?_; (focus (simp [wantG]; done)); go_simp) | (refine wpG_take ?_ ?_; (focus (simp [wantG]; done))) | (refine wpG_pure (fun K hK => ?_); go_simp; refine hK _ _ ?_; clear hK K) | (refine wpG_deed (by decide) (fun K hK => ?_); go_simp) | (refine wpG_nil ?_))
          refine wp_region_t [0, 0, 0, 0, 0, 1, 0, 0, 0, 1, 0, 0, 0, 0, 1, 0, 0, 0, 1, 0, 0] [none, none, none, none, none, none, none, none, none, none, none, none, none, none, none, none, none, none, none, none, none] (fun _ => True) (by kernel_rfl) (by kernel_rfl) (by kernel_rfl) ?_
          go_wp2_with (first | fail | (refine wpG_calc rfl (fun K hK => ?_)) | (refine wpG_skip ?_ ?_; (focus (simp [wantG]; done)); go_simp) | (refine wpG_take ?_ ?_; (focus (simp [wantG]; done))) | (refine wpG_pure (fun K hK => ?_); go_simp; refine hK _ _ ?_; clear hK K) | (refine wpG_deed (by decide) (fun K hK => ?_); go_simp) | (refine wpG_nil ?_))
          refine wp_region_t [0, 0, 0, 0, 0, 0, 0, 0, 0, 0, 0, 0, 1, 0, 0, 0, 1, 0, 0, 0] [none, none, none, none, some (93, false), some (93, false), some (93, false), some (93, false), some (97, true), some (97, true), some (97, true), some (97, true), some (97, true), some (97, true), some (97, true), some (97, true), some (97, true), some (97, true), some (93, false), none] (fun _ => True) (by kernel_rfl) (by kernel_rfl) (by kernel_rfl) ?_
          go_wp2_with (first | fail | (refine wpG_calc rfl (fun K hK => ?_)) | (refine wpG_skip ?_ ?_; (focus (simp [wantG]; done)); go_simp) | (refine wpG_take ?_ ?_; (focus (simp [wantG]; done))) | (refine wpG_pure (fun K hK => ?_); go_simp; refine hK _ _ ?_; clear hK K) | (refine wpG_deed (by decide) (fun K hK => ?_); go_simp) | (refine wpG_nil ?_))
          go_roundw
          case rel => exact ⟨j + 1 + 1, _, by omega, by go_num, hide HSB.out.drew, HSET, (hch.setCell (p := ⟨bs, y, none⟩) (.inl (by simp)) _).drew.drew.drew⟩
          case measure => simp [intOf]; omega
        · have t1 : decide (y < u) = false := decide_eq_false (by omega)
          have t3 : decide ((y : Int) < (u : Int)) = false := decide_eq_false (by omega)
          go_wp2_with fail
          refine wp_region_t [0, 0, 0, 1, 0, 0, 0, 0, 0, 1, 0, 1, 0, 0, 0, 0, 0, 0, 1, 0, 1, 0] [none, none, none, none, none, none, some (47, false), some (47, false), some (47, false), some (47, false), some (47, false), some (47, false), some (47, false), none, none, some (56, false), some (56, false), some (56, false), some (56, false), some (56, false), some (56, false), none] (fun _ => True) (by kernel_rfl) (by kernel_rfl) (by kernel_rfl) ?_
          go_wp2_with (first | fail | (refine wpG_calc rfl (fun K hK => ?_)) | (refine wpG_skip ?_ ?_; (focus (simp [wantG]; done)); go_simp) | (refine wpG_take ?_ ?_; (focus (simp [wantG]; done))) | (refine wpG_pure (fun K hK => ?_); go_simp; refine hK _ _ ?_; clear hK K) | (refine wpG_deed (by decide) (fun K hK => ?_); go_simp) | (refine wpG_nil ?_))
          refine wp_region_t [0, 0, 0, 0, 0, 1, 0, 0, 0, 1, 0, 0, 0, 0, 1, 0, 0, 0, 1, 0, 0] [none, none, none, none, none, none, none, none, none, none, none, none, none, none, none, none, none, none, none, none, none] (fun _ => True) (by kernel_rfl) (by kernel_rfl) (by kernel_rfl) ?_
          go_wp2_with (first | fail | (refine wpG_calc rfl (fun K hK => ?_)) | (refine wpG_skip ?_ ?_; (focus (simp [wantG]; done)); go_simp) | (refine wpG_take ?_ ?_; (focus (simp [wantG]; done))) | (refine wpG_pure (fun K hK => ?_); go_simp; refine hK _ _ ?_; clear hK K) | (refine wpG_deed (by decide) (fun K hK => ?_); go_simp) | (refine wpG_nil ?_))
          refine wp_region_t [0, 0, 0, 0, 0, 0, 0, 0, 0, 0, 0, 0, 1, 0, 0, 0, 1, 0, 0, 0] [none, none, none, none, some (93, false), some (93, false), some (93, false), some (93, false), some (97, true), some (97, true), some (97, true), some (97, true), some (97, true), some (97, true), some (97, true), some (97, true), some (97, true), some (97, true), some (93, false), none] (fun _ => True) (by kernel_rfl) (by kernel_rfl) (by kernel_rfl) ?_
          go_wp2_with (first | fail | (refine wpG_calc rfl (fun K hK => ?_)) | (refine wpG_skip ?_ ?_; (focus (simp [wantG]; done)); go_simp) | (refine wpG_take ?_ ?_; (focus (simp [wantG]; done))) | (refine wpG_pure (fun K hK => ?_); go_simp; refine hK _ _ ?_; clear hK K) | (refine wpG_deed (by decide) (fun K hK => ?_); go_simp) | (refine wpG_nil ?_))
          go_roundw
          case rel => exact ⟨j + 1 + 1, _, by omega, by go_num, hide HSB.out.drew, HSET, (hch.setCell (p := ⟨bs, y, none⟩) (.inl (by simp)) _).drew.drew.drew⟩
          case measure => simp [intOf]; omega
    · obtain rfl : k = l.length := by omega
      go_wp2_with fail
      refine (known_any _).mono ?_
      rintro e W5 ⟨rfl, hc5⟩
      have hch5 := hch.stay hc5
      clear hch hc5
      go_wp2_with fail
      go_ret
      exact ⟨rfl, HC3.out.trans hch5 (fun x hx => .inr (by obtain rfl := List.mem_singleton.1 hx; exact hwW))⟩
end Go.Proofs.Ytgehpdkhcjeldaa
