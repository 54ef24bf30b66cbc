/- The document's areas: set, Map, Unmap, Mapped, Protect. -/
import Derived.Test.YtmgjknlpcnakiaaRfB
import Derived.Great.Walk
import Derived.Deep.WholeRow
namespace Go.Proofs.Ytmgjknlpcnakiaa
open Go Go.RowKit

theorem pg_zero : pg (fun _ => 0) = Array.replicate 1024 (.int .u8 0) := by
  apply Array.ext_getElem?
  intro j
  by_cases hj : j < 1024
  · rw [pg_get _ hj]; simp [hj]
  · rw [Array.getElem?_eq_none (by rw [pg_size]; omega), Array.getElem?_eq_none (by simp; omega)]
theorem zero48 : ∀ w, (zeroValue 48).run Try.prog w = .ok (.agg (pg (fun _ => 0))) w := by
  have h : (Try.prog.info? 48).map (fun i => (i.zero, i.size)) = some (some (.agg (Array.replicate 1024 (.int .u8 0))), 1024) := by kernel_rfl
  rw [pg_zero]
  exact (zero_of_info h).1
theorem run_alloc48 (w : World) : (Instr.alloc 48 true (.tuple #[])).run Try.prog w = .ok (.pointer (some ⟨w.heap.size, 0, none⟩)) (w.alloc (.cells (pg (fun _ => 0)) 48)) := by
  simp [Instr.alloc, Sem.run_bind, zero48, newVar, newRow, run_newObj_alloc, Value.cells]
theorem run_build48 (w : World) : (Instr.build 48 #[]).run Try.prog w = .ok (.agg (pg (fun _ => 0))) w := by
  have hs : (sizeOf 5).run Try.prog w = .ok 1 w := by simp [go_sem]
  simp [Instr.build, Sem.run_bind, zero48, Value.cells, run_underlying Try.underlying48, hs, Instr.fill]
theorem wpList_alloc48 {ops : Array Oper} {rest : List Oper} {o : Oper} {a : Act} {w : World} {Q : Exit → Act → World → Prop} (hg : o.guard = none) (ho : o.op = .alloc 48)
    (h : wpList Try.prog ops Q rest (a.put o.dst (.pointer (some ⟨w.heap.size, 0, none⟩))) (w.alloc (.cells (pg (fun _ => 0)) 48))) : wpList Try.prog ops Q (o :: rest) a w :=
  Great.wpList_runTo hg _ rfl _ _ (by unfold execOp; simp only [ho, Sem.run_bind, run_alloc48, Sem.run_pure, Result.andThen_ok]) h
theorem wpList_build48 {ops : Array Oper} {rest : List Oper} {o : Oper} {a : Act} {w : World} {Q : Exit → Act → World → Prop} (hg : o.guard = none) (ho : o.op = .build 48 #[])
    (h : wpList Try.prog ops Q rest (a.put o.dst (.agg (pg (fun _ => 0)))) w) : wpList Try.prog ops Q (o :: rest) a w :=
  Great.wpList_runTo hg _ rfl _ _ (by unfold execOp; simp only [ho, List.map_toArray, List.map_nil, Sem.run_bind, run_build48, Sem.run_pure, Result.andThen_ok]) h
theorem wpList_load48 {ops : Array Oper} {rest : List Oper} {o : Oper} {a : Act} {w : World} {Q : Exit → Act → World → Prop} {b : Nat} {f : Int → Int} (h0 : PA w b f) (hg : o.guard = none) (x : Operand) (ho : o.op = .load 48 x)
    (hx : a.eval x = .pointer (some ⟨b, 0, none⟩)) (h : wpList Try.prog ops Q rest (a.put o.dst (.agg (pg f))) w) : wpList Try.prog ops Q (o :: rest) a w :=
  wpList_load_row hg 48 x ho b hx 48 (pg f) (0, 0) _ h0 Try.underlying48 rfl info48' h
theorem wpList_store48 {ops : Array Oper} {rest : List Oper} {o : Oper} {a : Act} {w : World} {Q : Exit → Act → World → Prop} {b : Nat} {f g : Int → Int} (h0 : PA w b f) (hg : o.guard = none) (x y : Operand) (ho : o.op = .store 48 x y)
    (hx : a.eval x = .pointer (some ⟨b, 0, none⟩)) (hy : a.eval y = .agg (pg g)) (h : ∀ w', PA w' b g → Chg [b] w w' → wpList Try.prog ops Q rest (a.put o.dst undef) w') : wpList Try.prog ops Q (o :: rest) a w :=
  wpList_store_row hg 48 x y ho b (pg g) hx hy 48 (pg f) h0 info48' (by rw [pg_size, pg_size]) (pg_one g) (h _ (setRow_heap w b _ _ _ _ h0) ((Chg.refl [b] w).setRow (.inl (by simp)) _))

/-- the rights of a page, of runs that may be -/
theorem Sp.rt_in {l : List Rn} (h : Sp l) (q : Int) : rt l q = if 0 ≤ q ∧ q < 1024 then rt l q else 0 := by
  by_cases hq : 0 ≤ q ∧ q < 1024
  · rw [if_pos hq]
  · rw [if_neg hq]
    by_cases h1 : q < 0
    · exact rt_lo h.nm h1
    · exact h.hi q (by omega)
set_option maxHeartbeats 2000000 in
theorem Set_any {w : World} {b : Nat} {l : List Rn} (h : PA w b (rt l)) (hs : Sp l) {page count g : Int} (hm : mayB page count = true) (hg : 0 ≤ g ∧ g ≤ 3) :
    Calls Try.prog 36 #[.pointer (some ⟨b, 0, none⟩), .int .i64 page, .int .i64 count, .int .u8 g] w fun e w' => e = .returned (.int .i64 (setE (withL l page count g))) ∧ PA w' b (rt (setR l (withL l page count g))) ∧ Chg [b] w w' := by
  obtain ⟨m1, m2, m3, m4⟩ := mayB_iff.1 hm
  obtain ⟨w1, w2⟩ := with_spec (g := g) hs.nm m1 m2
  obtain ⟨m, hmm⟩ : ∃ m, m = withL l page count g := ⟨_, rfl⟩
  rw [← hmm] at w1 w2 ⊢
  obtain ⟨p, rfl⟩ : ∃ p : Nat, page = p := ⟨page.toNat, by omega⟩
  obtain ⟨c, rfl⟩ : ∃ c : Nat, count = c := ⟨count.toNat, by omega⟩
  have hin : ∀ q, rt m q = if 0 ≤ q ∧ q < 1024 then rt m q else 0 := fun q => by
    by_cases hq : 0 ≤ q ∧ q < 1024
    · rw [if_pos hq]
    · rw [if_neg hq]
      by_cases h1 : q < 0
      · exact rt_lo w1 h1
      · rw [w2, if_neg (by omega)]; exact hs.hi q (by omega)
  obtain ⟨hg1, hg2⟩ := hg
  obtain ⟨E, hE⟩ : ∃ E, E = setE m := ⟨_, rfl⟩
  obtain ⟨R, hR⟩ : ∃ R, R = setR l m := ⟨_, rfl⟩
  rw [← hE, ← hR]
  have HE := hide hE
  have HR' := hide hR
  clear hE hR
  have HN := hide w1
  have HI := hide hin
  have HW := hide w2
  have H := hide h
  have hlt := h.lt
  clear hmm hin w1 w2 h hs hm
  go_enter Try.func36, Try.ntmps36
  go_wp2_with (first | (refine wpList_load48 H.out rfl _ rfl rfl ?_) | (refine wpList_alloc48 rfl rfl ?_) | (refine wpList_store48 (Blk.new w 48 _) rfl _ _ rfl rfl rfl ?_; intro W1 hA1 hc1))
  have hA2 : PA W1 b (rt l) := (Blk.alloc H.out _).chg hc1 (by simp; omega)
  have hs1 : w.heap.size < W1.heap.size := hA1.lt
  have HA1 := hide hA1
  have HA2 := hide hA2
  have hc01 : Chg [] w W1 := ((Chg.refl [] w).alloc _).trans hc1 (by simp)
  clear hA1 hA2 hc1
  go_loopw [10] (fun i wr => ∃ k : Nat, k ≤ c ∧ i = .int .i64 ((p + k : Nat) : Int) ∧ Hid (PA wr b (fun q => if (p : Int) ≤ q ∧ q < (p + k : Nat) then g else rt l q)) ∧ Chg [b] W1 wr) (fun i _ => p + c - (intOf i).toNat)
  case atStart => exact ⟨0, by omega, by simp, hide (by rw [PA, pg_ext (g := rt l) fun q _ _ => by rw [if_neg (by omega)]]; exact HA2.out), Chg.refl _ _⟩
  case round =>
    obtain ⟨k, hk, rfl, hpa, hch⟩ := hrel
    by_cases hkc : k < c
    · have hkb1 : (0 : Int) ≤ ((p + k : Nat) : Int) := by omega
      have hkb2 : ((p + k : Nat) : Int) < 1024 := by omega
      have hcl := hpa.out.get (i := p + k) (by omega)
      have hfz := hpa.out.frozen (p + k)
      go_wp2_with fail
      go_roundw
      case rel =>
        refine ⟨k + 1, by omega, by go_num, hide ?_, hch.setCell (p := ⟨b, p + k, none⟩) (.inl (by simp)) _⟩
        have := hpa.out.set_ (p + k) (.int .u8 g)
        rw [pg_set] at this
        rw [PA, pg_ext (fun q _ _ => ?_)]
        · exact this
        · by_cases e : q = ((p + k : Nat) : Int)
          · rw [if_pos (by omega), if_pos e]
          · rw [if_neg (c := q = ((p + k : Nat) : Int)) e]
            by_cases e2 : (p : Int) ≤ q ∧ q < ((p + k : Nat) : Int)
            · rw [if_pos (by omega), if_pos e2]
            · rw [if_neg (by omega), if_neg e2]
      case measure => simp [intOf]; omega
    · obtain rfl : k = c := by omega
      have hpm : PA wr b (rt m) := by
        rw [PA, pg_ext (g := fun q => if (p : Int) ≤ q ∧ q < (p + k : Nat) then g else rt l q) (fun q _ _ => by rw [HW.out, Int.natCast_add])]
        exact hpa.out
      have hbs : b ≠ w.heap.size := by omega
      have hcp : PA wr w.heap.size (rt l) := HA1.out.chg hch (by simp; omega)
      have HR := hide (Runs_any hpm HN.out HI.out)
      have Hcp := hide hcp
      have Hpm := hide hpm
      obtain ⟨n, hn⟩ : ∃ n, m.length = n := ⟨_, rfl⟩
      have Hn := hide hn
      clear hpm hcp hn
      by_cases hL : 32 < n
      · obtain rfl : E = 9 := by rw [HE.out]; unfold setE; rw [if_pos (by rw [Hn.out]; exact hL)]
        obtain rfl : R = l := by rw [HR'.out]; unfold setR; rw [if_pos (by rw [Hn.out]; exact hL)]
        have hL' : (32 : Int) < (n : Int) := by omega
        go_wp2_with (first | (go_at_call 37; refine HR.out.mono ?_; rintro e W2 ⟨A2, n2, c2, rfl, hs2, _, hc2⟩; obtain ⟨A', c', e'⟩ := hs2.form; obtain rfl : n2 = n := (by injection e' with _ e2 _; exact e2.trans Hn.out); clear e' A' c' hs2) | (refine wpList_load48 (Hcp.out.chg hc2 List.not_mem_nil) rfl _ rfl rfl ?_) | (refine wpList_store48 (Hpm.out.chg hc2 List.not_mem_nil) rfl _ _ rfl rfl rfl ?_; intro W3 hA3 hc3))
        go_ret
        exact ⟨rfl, hA3, ((hc01.up [b]).trans hch (fun _ h => .inl h)).trans (hc2.then_ hc3) (fun _ h => .inl h)⟩
      · obtain rfl : E = 0 := by rw [HE.out]; unfold setE; rw [if_neg (by rw [Hn.out]; exact hL)]
        obtain rfl : R = m := by rw [HR'.out]; unfold setR; rw [if_neg (by rw [Hn.out]; exact hL)]
        have hL' : (n : Int) ≤ 32 := by omega
        go_wp2_with (go_at_call 37; refine HR.out.mono ?_; rintro e W2 ⟨A2, n2, c2, rfl, hs2, _, hc2⟩; obtain ⟨A', c', e'⟩ := hs2.form; obtain rfl : n2 = n := (by injection e' with _ e2 _; exact e2.trans Hn.out); clear e' A' c' hs2)
        go_ret
        exact ⟨rfl, Hpm.out.chg hc2 List.not_mem_nil, ((hc01.up [b]).trans hch (fun _ h => .inl h)).stay hc2⟩
/-- what an operation of the document's areas leaves -/
def ROp (w : World) (b : Nat) (m : List Rn) (x : Int) (e : Ending) (w' : World) : Prop := e = .returned (.int .i64 x) ∧ PA w' b (rt m) ∧ Chg [b] w w'
theorem cnt_cntP {l : List Rn} (hs : Sp l) {page count : Int} (hc : 0 ≤ count) : ((cntP (fun q => decide (rt l q ≠ 0)) page count.toNat : Nat) : Int) = cntL l page count := by
  obtain ⟨n, rfl⟩ : ∃ n : Nat, count = n := ⟨count.toNat, by omega⟩
  rw [cntL_eq hs.nm]
  rfl
set_option maxHeartbeats 1000000 in
theorem rMap_any {w : World} {b : Nat} {l : List Rn} (h : PA w b (rt l)) (hs : Sp l) (page count g : Int) :
    Calls Try.prog 19 #[.pointer (some ⟨b, 0, none⟩), .int .i64 page, .int .i64 count, .int .u8 g] w (ROp w b (mapR l page count g) (mapE l page count g)) := by
  cases hb : mayB page count with
  | false =>
    have e1 : mapE l page count g = 2 := by unfold mapE; rw [if_pos (.inl hb)]
    have e3 : mapR l page count g = l := by unfold mapR; rw [if_pos (.inl hb)]
    rw [e1, e3]
    clear e1 e3
    have H := hide h
    clear h
    go_enter Try.func19, Try.ntmps19
    go_wp2_with (first | ((go_at_call 34; refine (May_any _ _ _).mono ?_; rintro e w' ⟨rfl, rfl⟩)))
    go_ret
    exact ⟨rfl, H.out, Chg.refl _ _⟩
  | true =>
    cases hg : rgB g with
    | false =>
      have e1 : mapE l page count g = 2 := by unfold mapE; rw [if_pos (.inr hg)]
      have e3 : mapR l page count g = l := by unfold mapR; rw [if_pos (.inr hg)]
      rw [e1, e3]
      clear e1 e3
      have H := hide h
      clear h
      by_cases h1 : g < 1
      · go_enter Try.func19, Try.ntmps19
        go_wp2_with (first | ((go_at_call 34; refine (May_any _ _ _).mono ?_; rintro e w' ⟨rfl, rfl⟩)))
        go_ret
        exact ⟨rfl, H.out, Chg.refl _ _⟩
      · have h3 : (3 : Int) < g := by simp [rgB] at hg; omega
        go_enter Try.func19, Try.ntmps19
        go_wp2_with (first | ((go_at_call 34; refine (May_any _ _ _).mono ?_; rintro e w' ⟨rfl, rfl⟩)))
        go_ret
        exact ⟨rfl, H.out, Chg.refl _ _⟩
    | true =>
      obtain ⟨g1, g2⟩ := rgB_iff.1 hg
      obtain ⟨m1, m2, m3, m4⟩ := mayB_iff.1 hb
      have HC := hide (mapped_any h page count hb)
      have hcc := cnt_cntP hs (page := page) (count := count) (by omega)
      by_cases hcnt : 0 < cntL l page count
      · have e1 : mapE l page count g = 8 := by unfold mapE; rw [if_neg (by simp [hb, hg]), if_pos hcnt]
        have e3 : mapR l page count g = l := by unfold mapR; rw [if_neg (by simp [hb, hg]), if_pos hcnt]
        rw [e1, e3]
        clear e1 e3
        have H := hide h
        clear h
        rw [← hcc] at hcnt
        generalize cntP (fun q => decide (rt l q ≠ 0)) page count.toNat = x at HC hcnt
        clear hcc
        go_enter Try.func19, Try.ntmps19
        go_wp2_with (first | ((go_at_call 34; refine (May_any _ _ _).mono ?_; rintro e w' ⟨rfl, rfl⟩)) | (go_at_call 35; refine HC.out.mono ?_; rintro e w' ⟨rfl, rfl⟩))
        go_ret
        exact ⟨rfl, H.out, Chg.refl _ _⟩
      · have e1 : mapE l page count g = setE (withL l page count g) := by unfold mapE; rw [if_neg (by simp [hb, hg]), if_neg hcnt]
        have e3 : mapR l page count g = setR l (withL l page count g) := by unfold mapR; rw [if_neg (by simp [hb, hg]), if_neg hcnt]
        rw [e1, e3]
        clear e1 e3
        have HS := hide (Set_any h hs hb (g := g) ⟨by omega, by omega⟩)
        clear h
        rw [← hcc] at hcnt
        generalize cntP (fun q => decide (rt l q ≠ 0)) page count.toNat = x at HC hcnt
        generalize setE (withL l page count g) = E at HS ⊢
        clear hcc
        go_enter Try.func19, Try.ntmps19
        go_wp2_with (first | ((go_at_call 34; refine (May_any _ _ _).mono ?_; rintro e w' ⟨rfl, rfl⟩)) | (go_at_call 35; refine HC.out.mono ?_; rintro e w' ⟨rfl, rfl⟩) | (go_at_call 36; refine HS.out.mono ?_; rintro e w' ⟨rfl, hw1, hw2⟩))
        go_ret
        exact ⟨rfl, hw1, hw2⟩
theorem rUn_any {w : World} {b : Nat} {l : List Rn} (h : PA w b (rt l)) (hs : Sp l) (page count : Int) :
    Calls Try.prog 20 #[.pointer (some ⟨b, 0, none⟩), .int .i64 page, .int .i64 count] w (ROp w b (unR l page count) (unE l page count)) := by
  cases hb : mayB page count with
  | false =>
    have e1 : unE l page count = 2 := by unfold unE; rw [if_pos hb]
    have e3 : unR l page count = l := by unfold unR; rw [if_pos hb]
    rw [e1, e3]
    clear e1 e3
    have H := hide h
    clear h
    go_enter Try.func20, Try.ntmps20
    go_wp2_with (first | ((go_at_call 34; refine (May_any _ _ _).mono ?_; rintro e w' ⟨rfl, rfl⟩)))
    go_ret
    exact ⟨rfl, H.out, Chg.refl _ _⟩
  | true =>
    have e1 : unE l page count = setE (withL l page count 0) := by unfold unE; rw [if_neg (by simp [hb])]
    have e3 : unR l page count = setR l (withL l page count 0) := by unfold unR; rw [if_neg (by simp [hb])]
    rw [e1, e3]
    clear e1 e3
    have HS := hide (Set_any h hs hb (g := 0) ⟨by omega, by omega⟩)
    clear h
    generalize setE (withL l page count 0) = E at HS ⊢
    go_enter Try.func20, Try.ntmps20
    go_wp2_with (first | ((go_at_call 34; refine (May_any _ _ _).mono ?_; rintro e w' ⟨rfl, rfl⟩)) | (go_at_call 36; refine HS.out.mono ?_; rintro e w' ⟨rfl, hw1, hw2⟩))
    go_ret
    exact ⟨rfl, hw1, hw2⟩
theorem rMd_any {w : World} {b : Nat} {l : List Rn} (h : PA w b (rt l)) (hs : Sp l) (page count : Int) :
    Calls Try.prog 22 #[.pointer (some ⟨b, 0, none⟩), .int .i64 page, .int .i64 count] w fun e w' => e = .returned (.int .i64 (mdE l page count)) ∧ w = w' := by
  cases hb : mayB page count with
  | false =>
    have e1 : mdE l page count = 2 := by unfold mdE; rw [if_pos hb]
    rw [e1]
    clear e1 h
    go_enter Try.func22, Try.ntmps22
    go_wp2_with (first | ((go_at_call 34; refine (May_any _ _ _).mono ?_; rintro e w' ⟨rfl, rfl⟩)))
    go_ret
    exact ⟨rfl, rfl⟩
  | true =>
    obtain ⟨m1, m2, m3, m4⟩ := mayB_iff.1 hb
    have HC := hide (mapped_any h page count hb)
    have hcc := cnt_cntP hs (page := page) (count := count) (by omega)
    rw [mdE_eq hb, ← hcc]
    clear h hcc
    generalize cntP (fun q => decide (rt l q ≠ 0)) page count.toNat = x at HC ⊢
    by_cases hx : (x : Int) < count
    · rw [if_pos hx]
      go_enter Try.func22, Try.ntmps22
      go_wp2_with (first | ((go_at_call 34; refine (May_any _ _ _).mono ?_; rintro e w' ⟨rfl, rfl⟩)) | (go_at_call 35; refine HC.out.mono ?_; rintro e w' ⟨rfl, rfl⟩))
      go_ret
      exact ⟨rfl, rfl⟩
    · rw [if_neg hx]
      go_enter Try.func22, Try.ntmps22
      go_wp2_with (first | ((go_at_call 34; refine (May_any _ _ _).mono ?_; rintro e w' ⟨rfl, rfl⟩)) | (go_at_call 35; refine HC.out.mono ?_; rintro e w' ⟨rfl, rfl⟩))
      go_ret
      exact ⟨rfl, rfl⟩
theorem rPr_any {w : World} {b : Nat} {l : List Rn} (h : PA w b (rt l)) (hs : Sp l) (page count g : Int) :
    Calls Try.prog 21 #[.pointer (some ⟨b, 0, none⟩), .int .i64 page, .int .i64 count, .int .u8 g] w (ROp w b (prR l page count g) (prE l page count g)) := by
  cases hg : rgB g with
  | false =>
    have e1 : prE l page count g = 2 := by unfold prE; rw [if_pos hg]
    have e3 : prR l page count g = l := by unfold prR; rw [if_pos hg]
    rw [e1, e3]
    clear e1 e3
    have H := hide h
    clear h
    by_cases h1 : g < 1
    · go_enter Try.func21, Try.ntmps21
      go_wp2_with fail
      go_ret
      exact ⟨rfl, H.out, Chg.refl _ _⟩
    · have h3 : (3 : Int) < g := by simp [rgB] at hg; omega
      go_enter Try.func21, Try.ntmps21
      go_wp2_with fail
      go_ret
      exact ⟨rfl, H.out, Chg.refl _ _⟩
  | true =>
    obtain ⟨g1, g2⟩ := rgB_iff.1 hg
    have HM := hide (rMd_any h hs page count)
    by_cases hmd : mdE l page count = 0
    · have hb := mdE_may hmd
      have e1 : prE l page count g = setE (withL l page count g) := by unfold prE; rw [if_neg (by simp [hg]), if_neg (by simp [hmd])]
      have e3 : prR l page count g = setR l (withL l page count g) := by unfold prR; rw [if_neg (by simp [hg]), if_neg (by simp [hmd])]
      rw [e1, e3]
      rw [hmd] at HM
      clear e1 e3 hmd
      have HS := hide (Set_any h hs hb (g := g) ⟨by omega, by omega⟩)
      clear h
      generalize setE (withL l page count g) = E at HS ⊢
      go_enter Try.func21, Try.ntmps21
      go_wp2_with (first | (go_at_call 22; refine HM.out.mono ?_; rintro e w' ⟨rfl, rfl⟩) | (go_at_call 36; refine HS.out.mono ?_; rintro e w' ⟨rfl, hw1, hw2⟩))
      go_ret
      exact ⟨rfl, hw1, hw2⟩
    · have e1 : prE l page count g = mdE l page count := by unfold prE; rw [if_neg (by simp [hg]), if_pos hmd]
      have e3 : prR l page count g = l := by unfold prR; rw [if_neg (by simp [hg]), if_pos hmd]
      rw [e1, e3]
      clear e1 e3
      have H := hide h
      clear h
      generalize mdE l page count = x at HM hmd ⊢
      have h2 : (x == 0) = false := by simpa using hmd
      have h4 : (x != 0) = true := by simpa using hmd
      go_enter Try.func21, Try.ntmps21
      go_wp2_with (first | (go_at_call 22; refine HM.out.mono ?_; rintro e w' ⟨rfl, rfl⟩))
      go_ret
      exact ⟨rfl, H.out, Chg.refl _ _⟩
end Go.Proofs.Ytmgjknlpcnakiaa
