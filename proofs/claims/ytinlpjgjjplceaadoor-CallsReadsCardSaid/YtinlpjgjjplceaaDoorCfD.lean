/- config's May: within, bare. -/
import Derived.Test.YtinlpjgjjplceaaDoorCfC
namespace Go.Proofs.YtinlpjgjjplceaaDoor
open Go Go.RowKit

theorem within_any (n lo hi : Int) (w : World) : Calls Tryd.prog 52 #[.int .i64 n, .int .i64 lo, .int .i64 hi] w fun e w' => e = .returned (.bool (decide (lo ≤ n ∧ n ≤ hi))) ∧ w = w' := by
  by_cases h1 : lo ≤ n
  · by_cases h2 : n ≤ hi
    · rw [decide_eq_true ⟨h1, h2⟩]
      go_enter Tryd.func52, Tryd.ntmps52
      go_wp2_with fail
      go_ret
      exact ⟨rfl, rfl⟩
    · rw [decide_eq_false (fun h => h2 h.2)]
      go_enter Tryd.func52, Tryd.ntmps52
      go_wp2_with fail
      go_ret
      exact ⟨rfl, rfl⟩
  · rw [decide_eq_false (fun h => h1 h.1)]
    go_enter Tryd.func52, Tryd.ntmps52
    go_wp2_with fail
    go_ret
    exact ⟨rfl, rfl⟩
theorem wpList_box26 {ops : Array Oper} {rest : List Oper} {o : Oper} {a : Act} {w : World} {Q : Exit → Act → World → Prop} {c : Cf} (hg : o.guard = none) (x : Operand) (ho : o.op = .box 26 x) (hx : a.eval x = .agg (cg c))
    (h : wpList Tryd.prog ops Q rest (a.put o.dst (.pointer (some ⟨w.heap.size, 0, none⟩))) (w.alloc (.cells (cg c) 26))) : wpList Tryd.prog ops Q (o :: rest) a w :=
  Great.wpList_runTo hg _ rfl _ _ (by unfold execOp; simp only [ho, hx, Sem.run_bind, Instr.box, newVar, newRow, run_newObj_alloc, Sem.run_pure, Result.andThen_ok, Value.cells]) h
theorem run_tail {t e : TypeId} {n size : Nat} (hu : Tryd.prog.underlying t = some (.array n e)) (hs : ∀ w, (sizeOf e).run Tryd.prog w = .ok size w) (b off : Nat) {z : Int} (h0 : 0 ≤ z) (h1 : z ≤ n) :
    ∃ off', (z.toNat = n ∧ off' = off ∨ off' = off + z.toNat * size) ∧ ∀ w, (Instr.sliceAt t (.pointer (some ⟨b, off, none⟩)) (some (.int .i64 z)) none none).run Tryd.prog w = .ok (.slice (some ⟨b, off', none⟩) (n - z.toNat) (n - z.toNat)) w := by
  by_cases e : n = z.toNat
  · refine ⟨off, .inl ⟨e.symm, rfl⟩, fun w => ?_⟩
    simp [Instr.sliceAt, run_underlying hu, Instr.sureAddr, Instr.sliceBounds, Instr.sliceBound, asIntOf, h0, h1, hs, e]
    omega
  · refine ⟨off + z.toNat * size, .inr rfl, fun w => ?_⟩
    simp [Instr.sliceAt, run_underlying hu, Instr.sureAddr, Instr.sliceBounds, Instr.sliceBound, asIntOf, h0, h1, hs, e, Addr.add_mid]
theorem wpList_tail {ops : Array Oper} {rest : List Oper} {o : Oper} {a : Act} {w : World} {Q : Exit → Act → World → Prop} {t e : TypeId} {n size : Nat} (hu : Tryd.prog.underlying t = some (.array n e)) (hs : ∀ w, (sizeOf e).run Tryd.prog w = .ok size w)
    (hg : o.guard = none) (x lo : Operand) (ho : o.op = .slice t x (some lo) none none) {b off : Nat} {z : Int} (hx : a.eval x = .pointer (some ⟨b, off, none⟩)) (hlo : a.eval lo = .int .i64 z) (h0 : 0 ≤ z) (h1 : z ≤ n)
    (h : ∀ off', (z.toNat = n ∧ off' = off ∨ off' = off + z.toNat * size) → wpList Tryd.prog ops Q rest (a.put o.dst (.slice (some ⟨b, off', none⟩) (n - z.toNat) (n - z.toNat))) w) : wpList Tryd.prog ops Q (o :: rest) a w := by
  obtain ⟨off', h2, h3⟩ := run_tail hu hs b off h0 h1
  exact Great.wpList_runTo hg _ rfl _ _ (by unfold execOp; simp only [ho, hx, hlo, Option.map_some, Option.map_none, Sem.run_bind, h3, Sem.run_pure, Result.andThen_ok]) (h off' h2)
theorem wpG_tail {S : World → Prop} {Q : Exit → Act → World → Prop} {o : Oper} {rest : List Oper} {ks : List Nat} {gs : List (Option (Nat × Bool))} {a : Act} {w : World} {t e : TypeId} {n size : Nat} (hu : Tryd.prog.underlying t = some (.array n e)) (hs : ∀ w, (sizeOf e).run Tryd.prog w = .ok size w)
    (x lo : Operand) (ho : o.op = .slice t x (some lo) none none) {b off : Nat} {z : Int} (hx : a.eval x = .pointer (some ⟨b, off, none⟩)) (hlo : a.eval lo = .int .i64 z) (h0 : 0 ≤ z) (h1 : z ≤ n)
    (h : ∀ off', (z.toNat = n ∧ off' = off ∨ off' = off + z.toNat * size) → wpG Tryd.prog S Q rest ks gs (a.put o.dst (.slice (some ⟨b, off', none⟩) (n - z.toNat) (n - z.toNat))) w) : wpG Tryd.prog S Q (o :: rest) (0 :: ks) (none :: gs) a w := by
  obtain ⟨off', h2, h3⟩ := run_tail hu hs b off h0 h1
  refine wpG_pure (fun K hK => ⟨_, fun w' => ?_, hK _ _ (h off' h2)⟩)
  unfold execOp
  simp only [ho, hx, hlo, Option.map_some, Option.map_none, Sem.run_bind, h3, Sem.run_pure, Result.andThen_ok]
theorem wpG_clear30 {S : World → Prop} {Q : Exit → Act → World → Prop} {o : Oper} {rest : List Oper} {ks : List Nat} {gs : List (Option (Nat × Bool))} {a : Act} {w : World} {b : Nat} {c : Cf} (h0 : CB w b c) (x : Operand) (ho : o.op = .call { callee := .builtin .clear, args := #[x], argTypes := #[84] }) {off n k : Nat}
    (hx : a.eval x = .slice (some ⟨b, off, none⟩) n k) (hn : off + n ≤ 94) (h : ∀ w', CB w' b (zeroed c off n) → Chg [b] w w' → wpG Tryd.prog S Q rest ks gs (a.put o.dst (.tuple #[])) w') : wpG Tryd.prog S Q (o :: rest) (3 :: ks) (none :: gs) a w := by
  refine wpG_deed (by decide) (fun K hK => ?_)
  unfold Oper.wp execOp
  simp only [ho, resolve, invoke, builtin, Sem.run_bind, Sem.run_pure, Result.andThen_ok, List.map_toArray, List.map_cons, List.map_nil, hx, run_clear30 h0 hn]
  exact hK _ _ (h _ (zero_cells n off w c h0).1 (zero_cells n off w c h0).2)
theorem zeroed_off {c : Cf} {o o' n : Nat} (h : n = 0 ∨ o' = o) : zeroed c o' n = zeroed c o n := by
  rcases h with rfl | rfl
  · funext i
    unfold zeroed
    rw [if_neg (by omega), if_neg (by omega)]
  · rfl
theorem size3 : ∀ w, (sizeOf 3).run Tryd.prog w = .ok 1 w := fun w => by
  obtain ⟨i, hi⟩ := info3
  rw [run_sizeOf w hi, cells3]
/-- behind the clears of the homes, the frames and k rows of the distances -/
def rowsC (c : Cf) (n k : Nat) : Cf := fun i => if 26 ≤ i ∧ i < 26 + 8 * k ∧ n ≤ (i - 26) % 8 then 0 else c i
def bareC (c : Cf) : Cf := zeroed (rowsC (zeroed (zeroed c (2 + (c 1).toNat) (16 - (c 1).toNat)) (18 + (c 0).toNat) (8 - (c 0).toNat)) (c 0).toNat 8) (26 + (c 0).toNat * 8) ((8 - (c 0).toNat) * 8)
theorem bareC_iff {c : Cf} (hn : 1 ≤ c 0 ∧ c 0 ≤ 8) (hp : 1 ≤ c 1 ∧ c 1 ≤ 16) : (∀ i, i < 94 → c i = bareC c i) ↔ ((∀ i : Nat, i < 16 → c 1 ≤ (i : Int) → c (2 + i) = 0) ∧ (∀ i : Nat, i < 8 → c 0 ≤ (i : Int) → c (18 + i) = 0) ∧ ∀ i k : Nat, i < 8 → k < 8 → c 0 ≤ (i : Int) ∨ c 0 ≤ (k : Int) → c (26 + i * 8 + k) = 0) := by
  obtain ⟨n, hn'⟩ : ∃ n : Nat, c 0 = n := ⟨(c 0).toNat, by omega⟩
  obtain ⟨p, hp'⟩ : ∃ p : Nat, c 1 = p := ⟨(c 1).toNat, by omega⟩
  rw [hn', hp']
  rw [hn'] at hn
  rw [hp'] at hp
  have hB : ∀ i, bareC c i = if 26 + n * 8 ≤ i ∧ i < 26 + n * 8 + (8 - n) * 8 then 0 else if 26 ≤ i ∧ i < 26 + 8 * 8 ∧ n ≤ (i - 26) % 8 then 0 else if 18 + n ≤ i ∧ i < 18 + n + (8 - n) then 0 else if 2 + p ≤ i ∧ i < 2 + p + (16 - p) then 0 else c i := fun i => by
    unfold bareC zeroed rowsC
    simp only [hn', hp', Int.toNat_natCast]
  constructor
  · intro h
    refine ⟨fun i hi hc => ?_, fun i hi hc => ?_, fun i k hi hk hc => ?_⟩
    · rw [h _ (by omega), hB, if_neg (by omega), if_neg (by omega), if_neg (by omega), if_pos (by omega)]
    · rw [h _ (by omega), hB, if_neg (by omega), if_neg (by omega), if_pos (by omega)]
    · rw [h _ (by omega), hB]
      by_cases e : 26 + n * 8 ≤ 26 + i * 8 + k ∧ 26 + i * 8 + k < 26 + n * 8 + (8 - n) * 8
      · rw [if_pos e]
      · rw [if_neg e, if_pos (by omega)]
  · rintro ⟨h1, h2, h3⟩ i hi
    rw [hB]
    by_cases e1 : 26 + n * 8 ≤ i ∧ i < 26 + n * 8 + (8 - n) * 8
    · rw [if_pos e1]
      have := h3 ((i - 26) / 8) ((i - 26) % 8) (by omega) (by omega) (.inl (by omega))
      rwa [show 26 + (i - 26) / 8 * 8 + (i - 26) % 8 = i by omega] at this
    · rw [if_neg e1]
      by_cases e2 : 26 ≤ i ∧ i < 26 + 8 * 8 ∧ n ≤ (i - 26) % 8
      · rw [if_pos e2]
        have := h3 ((i - 26) / 8) ((i - 26) % 8) (by omega) (by omega) (.inr (by omega))
        rwa [show 26 + (i - 26) / 8 * 8 + (i - 26) % 8 = i by omega] at this
      · rw [if_neg e2]
        by_cases e3 : 18 + n ≤ i ∧ i < 18 + n + (8 - n)
        · rw [if_pos e3]
          have := h2 (i - 18) (by omega) (by omega)
          rwa [show 18 + (i - 18) = i by omega] at this
        · rw [if_neg e3]
          by_cases e4 : 2 + p ≤ i ∧ i < 2 + p + (16 - p)
          · rw [if_pos e4]
            have := h1 (i - 2) (by omega) (by omega)
            rwa [show 2 + (i - 2) = i by omega] at this
          · rw [if_neg e4]
theorem rowsC_step {c : Cf} {n k : Nat} (hn : n ≤ 8) : zeroed (rowsC c n k) (26 + k * 8 + n) (8 - n) = rowsC c n (k + 1) := by
  funext i
  unfold zeroed rowsC
  by_cases e : 26 + k * 8 + n ≤ i ∧ i < 26 + k * 8 + n + (8 - n)
  · rw [if_pos e, if_pos (by omega)]
  · rw [if_neg e]
    by_cases e2 : 26 ≤ i ∧ i < 26 + 8 * k ∧ n ≤ (i - 26) % 8
    · rw [if_pos e2, if_pos (by omega)]
    · rw [if_neg e2, if_neg (by omega)]
theorem rowsC_zero {c : Cf} {n : Nat} : rowsC c n 0 = c := by
  funext i
  unfold rowsC
  rw [if_neg (by omega)]
theorem zeroed_at {c : Cf} {o n i : Nat} (h : i < o) : zeroed c o n i = c i := by unfold zeroed; rw [if_neg (by omega)]
theorem rowsC_at {c : Cf} {n k i : Nat} (h : i < 26) : rowsC c n k i = c i := by unfold rowsC; rw [if_neg (by omega)]
set_option maxHeartbeats 2000000 in
theorem bare_any {c : Cf} (w : World) (hn : 1 ≤ c 0 ∧ c 0 ≤ 8) (hp : 1 ≤ c 1 ∧ c 1 ≤ 16) : Calls Tryd.prog 53 #[.agg (cg c)] w fun e w' => e = .returned (.agg (cg (bareC c))) ∧ Chg [] w w' := by
  obtain ⟨n1, n2⟩ := hn
  obtain ⟨p1, p2⟩ := hp
  have hb0 : CB ((w.alloc (.cells (cg c) 26)).alloc (.cells (cg (fun _ => 0)) 26)) w.heap.size c := (Blk.new w 26 (cg c)).alloc _
  have hr0 : CB ((w.alloc (.cells (cg c) 26)).alloc (.cells (cg (fun _ => 0)) 26)) (w.heap.size + 1) (fun _ => 0) := by
    have := Blk.new (w.alloc (.cells (cg c) 26)) 26 (cg (fun _ => 0))
    rwa [World.size_alloc] at this
  have hc0 : Chg [] w ((w.alloc (.cells (cg c) 26)).alloc (.cells (cg (fun _ => 0)) 26)) := ((Chg.refl [] w).alloc _).alloc _
  have g0 := cg_get c (i := 0) (by omega)
  have g1 := cg_get c (i := 1) (by omega)
  have HR := hide hr0
  have HC := hide hc0
  have HB := hide hb0
  have HE : Hid (bareC c = bareC c) := hide rfl
  clear hb0 hr0 hc0
  obtain ⟨D, hD⟩ : ∃ D, D = bareC c := ⟨_, rfl⟩
  rw [← hD]
  have HD := hide hD
  clear hD HE
  have k1 : (0 : Int) ≤ c 1 := by omega
  have k2 : (0 : Int) ≤ c 0 := by omega
  go_enter Tryd.func53, Tryd.ntmps53
  go_wp2_with (first | (refine wpList_box26 rfl _ rfl rfl ?_) | (refine wpList_alloc26 rfl rfl ?_) | (refine wpList_tail Tryd.underlying22 size3 rfl _ _ rfl rfl rfl (by omega) (by omega) ?_; intro o1 ho1; refine wpList_clear30 HB.out rfl _ rfl rfl (by omega) ?_; intro W1 h1 hc1; rw [zeroed_off (o := 2 + (c 1).toNat) (by omega)] at h1; have q0 := CB.get h1 (i := 0) (by omega); rw [zeroed_at (by omega)] at q0; have H1 := hide h1; clear h1) | (refine wpList_tail Tryd.underlying23 size3 rfl _ _ rfl rfl rfl (by omega) (by omega) ?_; intro o2 ho2; refine wpList_clear30 H1.out rfl _ rfl rfl (by omega) ?_; intro W2 h2 hc2; rw [zeroed_off (o := 18 + (c 0).toNat) (by omega)] at h2))
  have hc12 := hc1.trans hc2 (fun x hx => .inl hx)
  clear H1 hc1 hc2 q0 HB
  have hr2 := HR.out.chg hc12 (by simp)
  have hc02 : Chg [] w W2 := HC.out.trans hc12 (fun x hx => .inr (by obtain rfl := List.mem_singleton.1 hx; exact Nat.le_refl _))
  clear HR HC hc12
  obtain ⟨c2, hc2⟩ : ∃ c2, c2 = zeroed (zeroed c (2 + (c 1).toNat) (16 - (c 1).toNat)) (18 + (c 0).toNat) (8 - (c 0).toNat) := ⟨_, rfl⟩
  rw [← hc2] at h2
  have e0 : c2 0 = c 0 := by rw [hc2, zeroed_at (by omega), zeroed_at (by omega)]
  have HC2 := hide hc2
  clear hc2
  have hbs : w.heap.size ≤ w.heap.size := Nat.le_refl _
  have hrs : w.heap.size ≤ w.heap.size + 1 := by omega
  have hne : w.heap.size ≠ w.heap.size + 1 := by omega
  generalize w.heap.size + 1 = r at hr2 hrs hne ⊢
  obtain ⟨b, hb⟩ : ∃ b, b = w.heap.size := ⟨_, rfl⟩
  have hbs : w.heap.size ≤ b := by omega
  rw [← hb] at h2 hne ⊢
  clear hb
  go_loopw [12] (fun i wr => ∃ k : Nat, k ≤ 8 ∧ i = .int .i64 k ∧ CB wr b (rowsC c2 (c 0).toNat k) ∧ Chg [b] W2 wr) (fun i _ => 8 - (intOf i).toNat)
  case atStart => exact ⟨0, by omega, rfl, by rw [rowsC_zero]; exact h2, Chg.refl _ _⟩
  case round =>
    obtain ⟨k, hk, rfl, h3, hch⟩ := hrel
    have q0 := CB.get h3 (i := 0) (by omega)
    rw [rowsC_at (by omega), e0] at q0
    have H3 := hide h3
    have hbl := h3.lt
    clear h2 h3
    by_cases hkt : k < 8
    · have kk1 : (0 : Int) ≤ (k : Int) := by omega
      have kk2 : (k : Int) < 8 := by omega
      go_wp2_with fail
      refine wp_region_t [0, 0, 0, 0, 1, 0, 3] [none, none, none, none, none, none, none] (fun _ => True) (by kernel_rfl) (by kernel_rfl) (by kernel_rfl) ?_
      have H3D := hide H3.out.drew
      go_wp2_with (first | (refine wpG_tail Tryd.underlying23 size3 _ _ rfl rfl rfl (by omega) (by omega) ?_; intro o3 ho3; refine wpG_clear30 H3D.out _ rfl rfl (by omega) ?_; intro W4 h4 hc4; rw [zeroed_off (o := 26 + k * 8 + (c 0).toNat) (by omega), rowsC_step (by omega)] at h4) | (refine wpG_calc rfl (fun K hK => ?_)) | (refine wpG_skip ?_ ?_; (focus (simp [wantG]; done)); go_simp) | (refine wpG_take ?_ ?_; (focus (simp [wantG]; done))) | (refine wpG_pure (fun K hK => ?_); go_simp; refine hK _ _ ?_; clear hK K) | (refine wpG_deed (by decide) (fun K hK => ?_); go_simp) | (refine wpG_nil ?_))
      go_roundw
      case rel => exact ⟨k + 1, by omega, by go_num, h4, (hch.drew).trans hc4 (fun x hx => .inl hx)⟩
      case measure => simp [intOf]; omega
    · obtain rfl : k = 8 := by omega
      have hr3 := hr2.chg hch (by simp; exact fun e => hne e.symm)
      have hc03 : Chg [] w wr := hc02.trans hch (fun x hx => .inr (by obtain rfl := List.mem_singleton.1 hx; exact hbs))
      have HR3 := hide hr3
      have HC3 := hide hc03
      clear hr2 hc02 hr3 hc03 hch
      go_wp2_with (first | (refine wpList_tail Tryd.underlying24 size23 rfl _ _ rfl rfl rfl (by omega) (by omega) ?_; intro o3 ho3; refine wpList_clear62 H3.out rfl _ rfl rfl (by omega) ?_; intro W4 h4 hc4; rw [zeroed_off (o := 26 + (c 0).toNat * 8) (by omega)] at h4; have HR4 := hide (HR3.out.chg hc4 (by simp; exact fun e => hne e.symm)); have H4 := hide h4; clear h4) | (refine wpList_load26 H4.out rfl _ rfl rfl ?_) | (refine wpList_store26 HR4.out rfl _ _ rfl rfl rfl ?_; intro W5 h5 hc5))
      refine bodyPost_ret (v := .agg (cg D)) (by rw [HD.out, bareC, ← HC2.out]; exact results_cell_row (p := 2) (ty := 26) rfl _ _ r 26 _ (0, 0) _ rfl h5 Tryd.underlying26 rfl info26') rfl ⟨rfl, ?_⟩
      exact ((HC3.out.trans hc4 (fun x hx => .inr (by obtain rfl := List.mem_singleton.1 hx; exact hbs))).trans hc5 (fun x hx => .inr (by obtain rfl := List.mem_singleton.1 hx; exact hrs)))
end Go.Proofs.YtinlpjgjjplceaaDoor
