/- The document's: a result out of bytes. -/
import Derived.Test.YtinlpjgjjplceaaDoorCcH
import Derived.Test.YtinlpjgjjplceaaDoorCcG
import Derived.Test.YtinlpjgjjplceaaDoorCcB
namespace Go.Proofs.YtinlpjgjjplceaaDoor
open Go Go.RowKit

section
variable {ops : Array Oper} {P : Program} {S : World → Prop} {Q : Exit → Act → World → Prop} {o : Oper} {rest : List Oper} {ks : List Nat} {gs : List (Option (Nat × Bool))} {a : Act} {w : World}
theorem wpG_hconv (f t : TypeId) (x : Operand) (ho : o.op = .convert f t x) {u v : Value} (hx : a.eval x = u) (hv : ∀ w', S w' → (convert f t u).run P w' = .ok v w') (hS : S w) (h : wpG P S Q rest ks gs (a.put o.dst v) w) :
    wpG P S Q (o :: rest) (5 :: ks) (none :: gs) a w := by
  refine wpG_held hS v (fun w' hw' => ?_) h
  unfold StillAt execOp
  simp [ho, hx, hv w' hw', Sem.run_bind]
end
theorem wp_storeRs {o : Oper} {a : Act} {w : World} {K : Act → World → Prop} {Q : Exit → Act → World → Prop} {b : Nat} {x y : Rs} {v u : Value} (z t : Operand) (ho : o.op = .store 48 z t) (hx : a.eval z = .pointer (some ⟨b, 0, none⟩)) (hy : a.eval t = .agg (rsc y u)) (hu : u.oneCell' = true) (h0 : XB w b x v)
    (h : ∀ w', XB w' b y u → Chg [b] w w' → K (a.put o.dst undef) w') : o.wp Tryd.prog a w K Q :=
  wp_store_row 48 z t ho b _ hx hy 48 _ h0 infoRs rfl (rsc_one y hu) (h _ (setRow_heap w b _ _ _ _ h0) ((Chg.refl [b] w).setRow (.inl (by simp)) _))
def rReadRsR (w' : World) (B : List Nat) (e : Ending) : Prop := ∃ A n c, e = .returned (.tuple #[.agg (rsc (rReadRs B) (.slice A n c)), .int .i64 (rReadRsE B)]) ∧ RB w' (.slice A n c) (rReadRs B).l
theorem rReadRs_no {B : List Nat} (h : rokRs B = false) : rReadRs B = zRs ∧ rReadRsE B = 5 := by
  unfold rReadRs rReadRsE
  rw [h]
  exact ⟨rfl, rfl⟩
theorem rReadRs_ok {B : List Nat} (h : rokRs B = true) : rReadRs B = rrsX B ∧ rReadRsE B = 0 := by
  unfold rReadRs rReadRsE
  rw [h]
  exact ⟨rfl, rfl⟩
theorem encRs_b8 {x : Rs} (hx : x.Ok) : ∀ b ∈ encRs x, b < 256 := by
  intro b hb
  unfold encRs at hb
  rcases List.mem_append.1 hb with hb | hb
  · rcases List.mem_append.1 hb with hb | hb
    · rcases List.mem_append.1 hb with hb | hb <;> exact le8_b _ b hb
    · exact le8_b _ b hb
  · exact hx.l b hb
set_option maxRecDepth 20000 in
set_option maxHeartbeats 40000000 in
theorem rReadRs_any {w : World} {v : Value} {B : List Nat} (hv : RB w v B) (h8 : ∀ b ∈ B, b < 256) (hlen : B.length ≤ 100000) :
    Calls Tryd.prog 23 #[v] w fun e w' => rReadRsR w' B e ∧ Chg [] w w' := by
  obtain ⟨A0, c0, rfl⟩ := RE.form hv
  obtain ⟨W2, hW2⟩ : ∃ W2, W2 = (w.alloc (.cells (rsc zRs zV) 48)).alloc (.cells (rsc zRs zV) 48) := ⟨_, rfl⟩
  have hb2 : XB W2 w.heap.size zRs zV := by rw [hW2]; exact (Blk.new w _ _).alloc _
  have hb4 : XB W2 (w.heap.size + 1) zRs zV := by
    have := Blk.new (w.alloc (.cells (rsc zRs zV) 48)) 48 (rsc zRs zV)
    rw [World.size_alloc] at this
    rw [hW2]
    exact this
  have hc2 : Chg [] w W2 := by rw [hW2]; exact ((Chg.refl [] w).alloc _).alloc _
  obtain ⟨b4, e4⟩ : ∃ b, b = w.heap.size + 1 := ⟨_, rfl⟩
  obtain ⟨b2, e2⟩ : ∃ b, b = w.heap.size := ⟨_, rfl⟩
  rw [← e4] at hb4
  rw [← e2] at hb2
  have HE := hide (And.intro e4 e2)
  have HB2 := hide hb2
  have HB4 := hide hb4
  have HC2 := hide hc2
  have HW2 := hide hW2
  have HN := hide (fun W (h : Chg [] w W) => rnum_any (hv.stay h) h8 0 (by omega) hlen)
  have HN8 := hide (fun W (h : Chg [] w W) => rnum_any (hv.stay h) h8 8 (by omega) hlen)
  have HV := hide hv
  have H8 := hide h8
  have HL := hide hlen
  have hcap := (RB_cap hv).2
  clear hv h8 hlen hb2 hb4 hc2 hW2 e4 e2
  have HRK := hide (show rokRs B = ((!(decide (999 < numB B 0) || decide (B.length < 24))) && (mayRs (rrsX B) && encRs (rrsX B) == B)) from rfl)
  have HX := hide (show rrsX B = ⟨(numB B 0 : Nat), numB B 8, B.drop 24⟩ from rfl)
  unfold rReadRsR
  have HN88 := hide (numB_lt H8.out 8)
  have HXO := hide (fun (h : numB B 0 ≤ 999) => rrsX_ok H8.out h)
  generalize numB B 0 = N0 at *
  generalize numB B 8 = N8 at *
  by_cases h1 : 999 < N0
  · have d1 : decide ((999 : Int) < (N0 : Int)) = true := decide_eq_true (by omega)
    have d1' : decide (999 < N0) = true := decide_eq_true h1
    have hno : rokRs B = false := by rw [HRK.out, d1']; rfl
    rw [(rReadRs_no hno).1, (rReadRs_no hno).2]
    clear h1 hno
    go_enter Tryd.func23, Tryd.ntmps23
    go_upto_region 2 with (first | (refine wpList_allocRs rfl rfl ?_; try simp only [World.size_alloc]; try rw [← HW2.out]))
    rw [← HE.out.1, ← HE.out.2]
    go_wp2_with fail
    refine (HN.out W2 HC2.out).mono ?_
    rintro e W3 ⟨rfl, rfl⟩
    go_upto_region 3 with (fail)
    clear d1 d1'
    try clear d2 d2'
    go_wp2_with (first | (refine wpList_loadRs rfl _ rfl rfl HB4.out ?_) | (refine wpList_storeRs (b := b2) (y := zRs) (u := zV) rfl _ _ rfl rfl rfl rfl HB2.out ?_; intro W9 h9 hc9))
    refine bodyPost_ret (v := .tuple #[.agg (rsc zRs zV), .int .i64 5]) (results_twoRs (p := 2) (q := 3) rfl _ rfl h9) rfl ⟨⟨none, 0, 0, rfl, RE.nil _ _ _ _ _⟩, HC2.out.trans hc9 (fun y hy => .inr (by obtain rfl := List.mem_singleton.1 hy; have := HE.out; omega))⟩
  have d1 : decide ((999 : Int) < (N0 : Int)) = false := decide_eq_false (by omega)
  have d1' : decide (999 < N0) = false := decide_eq_false h1
  by_cases h2 : B.length < 24
  · have d2 : decide ((B.length : Int) < 24) = true := decide_eq_true (by omega)
    have d2' : decide (B.length < 24) = true := decide_eq_true h2
    have hno : rokRs B = false := by rw [HRK.out, d1', d2']; rfl
    rw [(rReadRs_no hno).1, (rReadRs_no hno).2]
    clear h1 h2 hno
    go_enter Tryd.func23, Tryd.ntmps23
    go_upto_region 2 with (first | (refine wpList_allocRs rfl rfl ?_; try simp only [World.size_alloc]; try rw [← HW2.out]))
    rw [← HE.out.1, ← HE.out.2]
    go_wp2_with fail
    refine (HN.out W2 HC2.out).mono ?_
    rintro e W3 ⟨rfl, rfl⟩
    go_upto_region 3 with (fail)
    clear d1 d1'
    try clear d2 d2'
    go_wp2_with (first | (refine wpList_loadRs rfl _ rfl rfl HB4.out ?_) | (refine wpList_storeRs (b := b2) (y := zRs) (u := zV) rfl _ _ rfl rfl rfl rfl HB2.out ?_; intro W9 h9 hc9))
    refine bodyPost_ret (v := .tuple #[.agg (rsc zRs zV), .int .i64 5]) (results_twoRs (p := 2) (q := 3) rfl _ rfl h9) rfl ⟨⟨none, 0, 0, rfl, RE.nil _ _ _ _ _⟩, HC2.out.trans hc9 (fun y hy => .inr (by obtain rfl := List.mem_singleton.1 hy; have := HE.out; omega))⟩
  have d2 : decide ((B.length : Int) < 24) = false := decide_eq_false (by omega)
  have d2' : decide (B.length < 24) = false := decide_eq_false h2
  have h24 : 24 ≤ B.length := by omega
  have hwi : IntKind.i64.wrap (N0 : Int) = (N0 : Int) := by rw [IntKind.wrap_i64]; omega
  obtain ⟨g, off, rfl⟩ := RE.addr HV.out (by omega)
  have hok : rokRs B = (mayRs (rrsX B) && encRs (rrsX B) == B) := by rw [HRK.out, d1', d2']; rfl
  have HOK := hide hok
  have HXOK := hide (HXO.out (by omega))
  have HHI := hide (And.intro (show (24 : Int) ≤ (B.length : Int) by omega) (show (B.length : Int) ≤ (c0 : Int) by omega))
  clear hok HRK HXO h1 h2
  obtain ⟨R, hR⟩ : ∃ R, R = rReadRs B := ⟨_, rfl⟩
  obtain ⟨E, hE⟩ : ∃ E, E = rReadRsE B := ⟨_, rfl⟩
  rw [← hR, ← hE]
  have HRE := hide (And.intro hR hE)
  clear hR hE
  by_cases hc : c0 = 24
  · subst hc
    have hlB : B.length = 24 := by omega
    have HY := hide (fun W (h : Chg [] w W) => (show RB W (.slice (some ⟨g, off, none⟩) 0 0) (B.drop 24) from by rw [List.drop_eq_nil_of_le (by omega)]; exact RE.nil ucl 1 W _ _))
    clear hlB
    go_enter Tryd.func23, Tryd.ntmps23
    go_upto_region 2 with (first | (refine wpList_allocRs rfl rfl ?_; try simp only [World.size_alloc]; try rw [← HW2.out]))
    rw [← HE.out.1, ← HE.out.2]
    go_wp2_with fail
    refine (HN.out W2 HC2.out).mono ?_
    rintro e W3 ⟨rfl, rfl⟩
    go_upto_region 4 with (fail)
    clear d1 d1' d2 d2'
    have hS : Chg [] W2 W2.drew := (Chg.refl [] W2).drew
    have HLN := hide (show ([] : List Nat).length + (B.drop 24).length ≤ 1000000 by have := HL.out; rw [List.length_drop]; simp; omega)
    refine wp_region_t [0,5,0,0,5,6,0,0,3,0,3] [none, none, none, none, none, none, none, none, none, none, none] (fun W => Chg [] W2 W) (by kernel_rfl) (by kernel_rfl) (by kernel_rfl) ?_
    go_wp2_with (first | fail | (refine wpG_calc rfl (fun K hK => ?_)) | (refine wpG_skip ?_ ?_; (focus (simp [wantG]; done)); go_simp) | (refine wpG_take ?_ ?_; (focus (simp [wantG]; done))) | (refine wpG_pure (fun K hK => ?_); go_simp; refine hK _ _ ?_; clear hK K) | (refine wpG_deed (by decide) (fun K hK => ?_); go_simp) | (refine wpG_nil ?_))
    refine wpG_hcall (f := 51) (v := .int .u64 (N0 : Nat)) (fun w9 => ?_) (fun w9 hw9 => (HN.out w9 (HC2.out.stay hw9)).mono (fun e w8 h => ⟨h.1, h.2.symm⟩)) hS ?_
    · show (execOp _ _).run Tryd.prog w9 = _
      simp [execOp, resolve, invoke, go_sem]
    go_simp
    go_wp2_with (first | fail | (refine wpG_calc rfl (fun K hK => ?_)) | (refine wpG_skip ?_ ?_; (focus (simp [wantG]; done)); go_simp) | (refine wpG_take ?_ ?_; (focus (simp [wantG]; done))) | (refine wpG_pure (fun K hK => ?_); go_simp; refine hK _ _ ?_; clear hK K) | (refine wpG_deed (by decide) (fun K hK => ?_); go_simp) | (refine wpG_nil ?_))
    refine wpG_hcall (f := 51) (v := .int .u64 (N8 : Nat)) (fun w9 => ?_) (fun w9 hw9 => (HN8.out w9 (HC2.out.stay hw9)).mono (fun e w8 h => ⟨h.1, h.2.symm⟩)) hS ?_
    · show (execOp _ _).run Tryd.prog w9 = _
      simp [execOp, resolve, invoke, go_sem]
    go_simp
    go_wp2_with (first | fail | (refine wpG_calc rfl (fun K hK => ?_)) | (refine wpG_skip ?_ ?_; (focus (simp [wantG]; done)); go_simp) | (refine wpG_take ?_ ?_; (focus (simp [wantG]; done))) | (refine wpG_pure (fun K hK => ?_); go_simp; refine hK _ _ ?_; clear hK K) | (refine wpG_deed (by decide) (fun K hK => ?_); go_simp) | (refine wpG_nil ?_))
    have hS2 : Chg [] W2 (W2.drew.alloc (.cells #[] 5)) := hS.alloc _
    (refine wpG_keeps hS (fun K hK => ?_))
    go_simp
    refine hK _ _ hS2 ?_
    clear hK K
    have hh1 := HHI.out.1
    have hh2 := HHI.out.2
    go_wp2_with (first | (refine wpG_deed (by decide) (fun K hK => ?_); refine wp_append_b _ _ rfl (.slice (some ⟨W2.heap.size, 0, none⟩) 0 0) (.slice (some ⟨g, off, none⟩) 0 0) rfl rfl (l := []) (m := B.drop 24) (SB_none W2.drew) (HY.out _ (HC2.out.stay hS2)) HLN.out ?_; intro A5 n5 k5 W5 hn5 hs5 hc5 hg5; refine hK _ _ ?_; clear hK K; have HC25 := hide (show Chg [] W2 W5 from hS2.trans hc5 (fun k hk => .inr (by simp [own, Value.ownBlock] at hk; omega))); have HB45 := hide (XB.stay HB4.out HC25.out)) | (refine wpG_deed (by decide) (fun K hK => ?_); refine wp_storeRs (b := b4) (y := ⟨(N0 : Nat), N8, B.drop 24⟩) (u := .slice A5 n5 k5) _ _ rfl rfl rfl rfl HB45.out ?_; intro W6 h6 hc6; refine hK _ _ ?_; clear hK K) | (refine wpG_calc rfl (fun K hK => ?_)) | (refine wpG_skip ?_ ?_; (focus (simp [wantG]; done)); go_simp) | (refine wpG_take ?_ ?_; (focus (simp [wantG]; done))) | (refine wpG_pure (fun K hK => ?_); go_simp; refine hK _ _ ?_; clear hK K) | (refine wpG_deed (by decide) (fun K hK => ?_); go_simp) | (refine wpG_nil ?_))
    have n5l : n5 = (B.drop 24).length := (RB_cap hs5.re).1
    subst n5l
    have HS6 := hide (show SB W6 (.slice A5 (B.drop 24).length k5) (B.drop 24) from hs5.chg hc6 (fun k hk hk' => SB.not_res hs5 HB45.out (by obtain rfl := List.mem_singleton.1 hk'; exact hk)))
    have HB6 := hide (show XB W6 b2 zRs zV from Blk.chg (XB.stay HB2.out HC25.out) hc6 (by have := HE.out; simp only [List.mem_singleton]; omega))
    have HX6 := hide h6
    have HC6 := hide (show Chg [] w W6 from (HC2.out.stay HC25.out).trans hc6 (fun y hy => .inr (by obtain rfl := List.mem_singleton.1 hy; have := HE.out; omega)))
    have hok := HOK.out
    rw [HX.out] at hok
    have hxo := HXOK.out
    rw [HX.out] at hxo
    have HXO := hide hxo
    have HRO := hide (fun h : rokRs B = true => (show rReadRs B = ⟨(N0 : Nat), N8, B.drop 24⟩ ∧ rReadRsE B = 0 from ⟨(rReadRs_ok h).1.trans HX.out, (rReadRs_ok h).2⟩))
    clear hs5 hc6 hn5 hc5 hg5 HB45 HC25 HOK HXOK hxo h6 hS hS2 HLN hh1 hh2 HHI
    have hS : Chg [] W6 W6.drew := (Chg.refl [] W6).drew
    have HCB := hide (fun W (h : Chg [] W6 W) => run_str (HV.out.stay (HC6.out.stay h)) H8.out)
    have HL24 := hide (show (B.drop 24).length ≤ 100000 by have := HL.out; rw [List.length_drop]; omega)
    generalize B.drop 24 = L9 at *
    cases hm : mayRs ⟨(N0 : Nat), N8, L9⟩ with
    | false =>
      have hno : rokRs B = false := by rw [hok, hm]; rfl
      obtain rfl : R = zRs := by rw [HRE.out.1]; exact (rReadRs_no hno).1
      obtain rfl : E = 5 := by rw [HRE.out.2]; exact (rReadRs_no hno).2
      have HM := hide (fun W => rMayRs_any ⟨(N0 : Nat), N8, L9⟩ (.slice A5 L9.length k5) ⟨_, _, rfl⟩ W)
      rw [hm] at HM
      clear hno hok hm
      refine wp_region_g [5,6,0,0,5,6,6,0,5,0,0] [none, none, none, none, some (27, false), some (27, false), some (27, false), some (27, false), some (27, false), some (27, false), none] [[0,1,2,3,7,8,4,5,6,9,10]] (fun W => Chg [] W6 W) (by kernel_rfl) (by kernel_rfl) (by kernel_rfl) (by kernel_rfl) (fun L hL => ?_)
      obtain rfl := List.mem_singleton.1 hL
      simp only [picks, List.filterMap_cons, List.filterMap_nil, List.getElem?_cons_succ, List.getElem?_cons_zero]
      go_wp2_with (first | (refine wpG_hload 48 _ rfl rfl (fun w' hw' => XB.load (XB.stay HX6.out hw')) hS ?_) | (refine wpG_calc rfl (fun K hK => ?_)) | (refine wpG_skip ?_ ?_; (focus (simp [wantG]; done)); go_simp) | (refine wpG_take ?_ ?_; (focus (simp [wantG]; done))) | (refine wpG_pure (fun K hK => ?_); go_simp; refine hK _ _ ?_; clear hK K) | (refine wpG_deed (by decide) (fun K hK => ?_); go_simp) | (refine wpG_nil ?_))
      (refine wpG_keeps hS (fun K hK => ?_))
      go_simp
      refine (HM.out W6.drew).mono ?_
      rintro e W7 ⟨rfl, hc7⟩
      have hS7 : Chg [] W6 W7 := hS.stay hc7
      refine hK _ _ hS7 ?_
      clear hK K hc7
      have HB7 := hide (XB.stay HB6.out hS7)
      go_wp2_with (first | (refine wpList_storeRs (b := b2) (y := zRs) (u := zV) rfl _ _ rfl rfl rfl rfl HB7.out ?_; intro W8 h8 hc8) | (refine wpG_calc rfl (fun K hK => ?_)) | (refine wpG_skip ?_ ?_; (focus (simp [wantG]; done)); go_simp) | (refine wpG_take ?_ ?_; (focus (simp [wantG]; done))) | (refine wpG_pure (fun K hK => ?_); go_simp; refine hK _ _ ?_; clear hK K) | (refine wpG_deed (by decide) (fun K hK => ?_); go_simp) | (refine wpG_nil ?_))
      refine bodyPost_ret (v := .tuple #[.agg (rsc zRs zV), .int .i64 5]) (results_twoRs (p := 2) (q := 3) rfl _ rfl h8) rfl ⟨⟨none, 0, 0, rfl, RE.nil _ _ _ _ _⟩, ?_⟩
      exact (HC6.out.stay hS7).trans hc8 (fun y hy => .inr (by obtain rfl := List.mem_singleton.1 hy; have := HE.out; omega))
    | true =>
      have HM := hide (fun W => rMayRs_any ⟨(N0 : Nat), N8, L9⟩ (.slice A5 L9.length k5) ⟨_, _, rfl⟩ W)
      rw [hm] at HM
      rw [hm, Bool.true_and] at hok
      have h8e := encRs_b8 HXO.out
      have hsl := strB_list h8e H8.out
      have HOK := hide hok
      have H8E := hide h8e
      clear hok h8e hm
      cases he : decide (encRs ⟨(N0 : Nat), N8, L9⟩ = B) with
      | true =>
        have hyes : rokRs B = true := by rw [HOK.out, of_decide_eq_true he]; simp
        obtain rfl : R = ⟨(N0 : Nat), N8, L9⟩ := by rw [HRE.out.1]; exact (HRO.out hyes).1
        obtain rfl : E = 0 := by rw [HRE.out.2]; exact (HRO.out hyes).2
        rw [he] at hsl
        clear hyes he
        generalize strB B = sy at HCB hsl
        generalize hsx : strB (encRs ⟨(N0 : Nat), N8, L9⟩) = sx at hsl
        have HSX := hide hsx
        clear hsx
        refine wp_region_g [5,6,0,0,5,6,6,0,5,0,0] [none, none, none, none, some (27, false), some (27, false), some (27, false), some (27, false), some (27, false), some (27, false), none] [[0,1,2,3,7,8,4,5,6,9,10]] (fun W => Chg [] W6 W) (by kernel_rfl) (by kernel_rfl) (by kernel_rfl) (by kernel_rfl) (fun L hL => ?_)
        obtain rfl := List.mem_singleton.1 hL
        simp only [picks, List.filterMap_cons, List.filterMap_nil, List.getElem?_cons_succ, List.getElem?_cons_zero]
        go_wp2_with (first | (refine wpG_hload 48 _ rfl rfl (fun w' hw' => XB.load (XB.stay HX6.out hw')) hS ?_) | (refine wpG_calc rfl (fun K hK => ?_)) | (refine wpG_skip ?_ ?_; (focus (simp [wantG]; done)); go_simp) | (refine wpG_take ?_ ?_; (focus (simp [wantG]; done))) | (refine wpG_pure (fun K hK => ?_); go_simp; refine hK _ _ ?_; clear hK K) | (refine wpG_deed (by decide) (fun K hK => ?_); go_simp) | (refine wpG_nil ?_))
        (refine wpG_keeps hS (fun K hK => ?_))
        go_simp
        refine (HM.out W6.drew).mono ?_
        rintro e W7 ⟨rfl, hc7⟩
        have hS7 : Chg [] W6 W7 := hS.stay hc7
        refine hK _ _ hS7 ?_
        clear hK K hc7
        go_wp2_with (first | (refine wpG_hload 48 _ rfl rfl (fun w' hw' => XB.load (XB.stay HX6.out hw')) hS7 ?_) | (refine wpG_hconv 32 9 _ rfl rfl HCB.out hS7 ?_) | (refine wpG_calc rfl (fun K hK => ?_)) | (refine wpG_skip ?_ ?_; (focus (simp [wantG]; done)); go_simp) | (refine wpG_take ?_ ?_; (focus (simp [wantG]; done))) | (refine wpG_pure (fun K hK => ?_); go_simp; refine hK _ _ ?_; clear hK K) | (refine wpG_deed (by decide) (fun K hK => ?_); go_simp) | (refine wpG_nil ?_))
        (refine wpG_keeps hS7 (fun K hK => ?_))
        go_simp
        refine (rRsBytes_any HXO.out HL24.out (HS6.out.stay hS7).re).mono ?_
        rintro e W8 ⟨⟨A8, n8, k8, rfl, hs8, -⟩, hc8⟩
        have hS8 : Chg [] W6 W8 := hS7.stay hc8
        refine hK _ _ hS8 ?_
        clear hK K hc8
        have hcx := run_str hs8.re H8E.out
        rw [HSX.out] at hcx
        have HB8 := hide (XB.stay HB6.out hS8)
        have HX8 := hide (XB.stay HX6.out hS8)
        clear hs8
        go_wp2_with (first | fail | (refine wpG_calc rfl (fun K hK => ?_)) | (refine wpG_skip ?_ ?_; (focus (simp [wantG]; done)); go_simp) | (refine wpG_take ?_ ?_; (focus (simp [wantG]; done))) | (refine wpG_pure (fun K hK => ?_); go_simp; refine hK _ _ ?_; clear hK K) | (refine wpG_deed (by decide) (fun K hK => ?_); go_simp) | (refine wpG_nil ?_))
        (refine wpG_keeps hS8 (fun K hK => ?_))
        go_simp
        refine hK _ _ hS8 ?_
        clear hK K
        go_wp2_with (first | (refine wpList_loadRs rfl _ rfl rfl HX8.out ?_) | (refine wpList_storeRs (b := b2) (y := ⟨(N0 : Nat), N8, L9⟩) (u := .slice A5 L9.length k5) rfl _ _ rfl rfl rfl rfl HB8.out ?_; intro W9 h9 hc9) | (refine wpG_calc rfl (fun K hK => ?_)) | (refine wpG_skip ?_ ?_; (focus (simp [wantG]; done)); go_simp) | (refine wpG_take ?_ ?_; (focus (simp [wantG]; done))) | (refine wpG_pure (fun K hK => ?_); go_simp; refine hK _ _ ?_; clear hK K) | (refine wpG_deed (by decide) (fun K hK => ?_); go_simp) | (refine wpG_nil ?_))
        refine bodyPost_ret (v := .tuple #[.agg (rsc ⟨(N0 : Nat), N8, L9⟩ (.slice A5 L9.length k5)), .int .i64 0]) (results_twoRs (p := 2) (q := 3) rfl _ rfl h9) rfl ⟨⟨A5, L9.length, k5, rfl, ?_⟩, ?_⟩
        · exact ((HS6.out.stay hS8).chg hc9 (fun k hk hk' => SB.not_res (HS6.out.stay hS8) HB8.out (by obtain rfl := List.mem_singleton.1 hk'; exact hk))).re
        · exact (HC6.out.stay hS8).trans hc9 (fun y hy => .inr (by obtain rfl := List.mem_singleton.1 hy; have := HE.out; omega))
      | false =>
        have hno : rokRs B = false := by rw [HOK.out]; exact beq_false_of_ne (of_decide_eq_false he)
        obtain rfl : R = zRs := by rw [HRE.out.1]; exact (rReadRs_no hno).1
        obtain rfl : E = 5 := by rw [HRE.out.2]; exact (rReadRs_no hno).2
        rw [he] at hsl
        clear hno he
        generalize strB B = sy at HCB hsl
        generalize hsx : strB (encRs ⟨(N0 : Nat), N8, L9⟩) = sx at hsl
        have HSX := hide hsx
        clear hsx
        refine wp_region_g [5,6,0,0,5,6,6,0,5,0,0] [none, none, none, none, some (27, false), some (27, false), some (27, false), some (27, false), some (27, false), some (27, false), none] [[0,1,2,3,7,8,4,5,6,9,10]] (fun W => Chg [] W6 W) (by kernel_rfl) (by kernel_rfl) (by kernel_rfl) (by kernel_rfl) (fun L hL => ?_)
        obtain rfl := List.mem_singleton.1 hL
        simp only [picks, List.filterMap_cons, List.filterMap_nil, List.getElem?_cons_succ, List.getElem?_cons_zero]
        go_wp2_with (first | (refine wpG_hload 48 _ rfl rfl (fun w' hw' => XB.load (XB.stay HX6.out hw')) hS ?_) | (refine wpG_calc rfl (fun K hK => ?_)) | (refine wpG_skip ?_ ?_; (focus (simp [wantG]; done)); go_simp) | (refine wpG_take ?_ ?_; (focus (simp [wantG]; done))) | (refine wpG_pure (fun K hK => ?_); go_simp; refine hK _ _ ?_; clear hK K) | (refine wpG_deed (by decide) (fun K hK => ?_); go_simp) | (refine wpG_nil ?_))
        (refine wpG_keeps hS (fun K hK => ?_))
        go_simp
        refine (HM.out W6.drew).mono ?_
        rintro e W7 ⟨rfl, hc7⟩
        have hS7 : Chg [] W6 W7 := hS.stay hc7
        refine hK _ _ hS7 ?_
        clear hK K hc7
        go_wp2_with (first | (refine wpG_hload 48 _ rfl rfl (fun w' hw' => XB.load (XB.stay HX6.out hw')) hS7 ?_) | (refine wpG_hconv 32 9 _ rfl rfl HCB.out hS7 ?_) | (refine wpG_calc rfl (fun K hK => ?_)) | (refine wpG_skip ?_ ?_; (focus (simp [wantG]; done)); go_simp) | (refine wpG_take ?_ ?_; (focus (simp [wantG]; done))) | (refine wpG_pure (fun K hK => ?_); go_simp; refine hK _ _ ?_; clear hK K) | (refine wpG_deed (by decide) (fun K hK => ?_); go_simp) | (refine wpG_nil ?_))
        (refine wpG_keeps hS7 (fun K hK => ?_))
        go_simp
        refine (rRsBytes_any HXO.out HL24.out (HS6.out.stay hS7).re).mono ?_
        rintro e W8 ⟨⟨A8, n8, k8, rfl, hs8, -⟩, hc8⟩
        have hS8 : Chg [] W6 W8 := hS7.stay hc8
        refine hK _ _ hS8 ?_
        clear hK K hc8
        have hcx := run_str hs8.re H8E.out
        rw [HSX.out] at hcx
        have HB8 := hide (XB.stay HB6.out hS8)
        have HX8 := hide (XB.stay HX6.out hS8)
        clear hs8
        go_wp2_with (first | fail | (refine wpG_calc rfl (fun K hK => ?_)) | (refine wpG_skip ?_ ?_; (focus (simp [wantG]; done)); go_simp) | (refine wpG_take ?_ ?_; (focus (simp [wantG]; done))) | (refine wpG_pure (fun K hK => ?_); go_simp; refine hK _ _ ?_; clear hK K) | (refine wpG_deed (by decide) (fun K hK => ?_); go_simp) | (refine wpG_nil ?_))
        (refine wpG_keeps hS8 (fun K hK => ?_))
        go_simp
        refine hK _ _ hS8 ?_
        clear hK K
        go_wp2_with (first | (refine wpList_storeRs (b := b2) (y := zRs) (u := zV) rfl _ _ rfl rfl rfl rfl HB8.out ?_; intro W9 h9 hc9) | (refine wpG_calc rfl (fun K hK => ?_)) | (refine wpG_skip ?_ ?_; (focus (simp [wantG]; done)); go_simp) | (refine wpG_take ?_ ?_; (focus (simp [wantG]; done))) | (refine wpG_pure (fun K hK => ?_); go_simp; refine hK _ _ ?_; clear hK K) | (refine wpG_deed (by decide) (fun K hK => ?_); go_simp) | (refine wpG_nil ?_))
        refine bodyPost_ret (v := .tuple #[.agg (rsc zRs zV), .int .i64 5]) (results_twoRs (p := 2) (q := 3) rfl _ rfl h9) rfl ⟨⟨none, 0, 0, rfl, RE.nil _ _ _ _ _⟩, ?_⟩
        exact (HC6.out.stay hS8).trans hc9 (fun y hy => .inr (by obtain rfl := List.mem_singleton.1 hy; have := HE.out; omega))
  · have HY := hide (fun W (h : Chg [] w W) => (show RB W (.slice (some ⟨g, off + 24, none⟩) (B.length - 24) (c0 - 24)) (B.drop 24) from RE_drop (HV.out.stay h) h24))
    have hc' : ¬ 24 = c0 := fun h => hc h.symm
    go_enter Tryd.func23, Tryd.ntmps23
    go_upto_region 2 with (first | (refine wpList_allocRs rfl rfl ?_; try simp only [World.size_alloc]; try rw [← HW2.out]))
    rw [← HE.out.1, ← HE.out.2]
    go_wp2_with fail
    refine (HN.out W2 HC2.out).mono ?_
    rintro e W3 ⟨rfl, rfl⟩
    go_upto_region 4 with (fail)
    clear d1 d1' d2 d2'
    have hS : Chg [] W2 W2.drew := (Chg.refl [] W2).drew
    have HLN := hide (show ([] : List Nat).length + (B.drop 24).length ≤ 1000000 by have := HL.out; rw [List.length_drop]; simp; omega)
    refine wp_region_t [0,5,0,0,5,6,0,0,3,0,3] [none, none, none, none, none, none, none, none, none, none, none] (fun W => Chg [] W2 W) (by kernel_rfl) (by kernel_rfl) (by kernel_rfl) ?_
    go_wp2_with (first | fail | (refine wpG_calc rfl (fun K hK => ?_)) | (refine wpG_skip ?_ ?_; (focus (simp [wantG]; done)); go_simp) | (refine wpG_take ?_ ?_; (focus (simp [wantG]; done))) | (refine wpG_pure (fun K hK => ?_); go_simp; refine hK _ _ ?_; clear hK K) | (refine wpG_deed (by decide) (fun K hK => ?_); go_simp) | (refine wpG_nil ?_))
    refine wpG_hcall (f := 51) (v := .int .u64 (N0 : Nat)) (fun w9 => ?_) (fun w9 hw9 => (HN.out w9 (HC2.out.stay hw9)).mono (fun e w8 h => ⟨h.1, h.2.symm⟩)) hS ?_
    · show (execOp _ _).run Tryd.prog w9 = _
      simp [execOp, resolve, invoke, go_sem]
    go_simp
    go_wp2_with (first | fail | (refine wpG_calc rfl (fun K hK => ?_)) | (refine wpG_skip ?_ ?_; (focus (simp [wantG]; done)); go_simp) | (refine wpG_take ?_ ?_; (focus (simp [wantG]; done))) | (refine wpG_pure (fun K hK => ?_); go_simp; refine hK _ _ ?_; clear hK K) | (refine wpG_deed (by decide) (fun K hK => ?_); go_simp) | (refine wpG_nil ?_))
    refine wpG_hcall (f := 51) (v := .int .u64 (N8 : Nat)) (fun w9 => ?_) (fun w9 hw9 => (HN8.out w9 (HC2.out.stay hw9)).mono (fun e w8 h => ⟨h.1, h.2.symm⟩)) hS ?_
    · show (execOp _ _).run Tryd.prog w9 = _
      simp [execOp, resolve, invoke, go_sem]
    go_simp
    go_wp2_with (first | fail | (refine wpG_calc rfl (fun K hK => ?_)) | (refine wpG_skip ?_ ?_; (focus (simp [wantG]; done)); go_simp) | (refine wpG_take ?_ ?_; (focus (simp [wantG]; done))) | (refine wpG_pure (fun K hK => ?_); go_simp; refine hK _ _ ?_; clear hK K) | (refine wpG_deed (by decide) (fun K hK => ?_); go_simp) | (refine wpG_nil ?_))
    have hS2 : Chg [] W2 (W2.drew.alloc (.cells #[] 5)) := hS.alloc _
    (refine wpG_keeps hS (fun K hK => ?_))
    go_simp
    refine hK _ _ hS2 ?_
    clear hK K
    have hh1 := HHI.out.1
    have hh2 := HHI.out.2
    go_wp2_with (first | (refine wpG_deed (by decide) (fun K hK => ?_); refine wp_append_b _ _ rfl (.slice (some ⟨W2.heap.size, 0, none⟩) 0 0) (.slice (some ⟨g, off + 24, none⟩) (B.length - 24) (c0 - 24)) rfl rfl (l := []) (m := B.drop 24) (SB_none W2.drew) (HY.out _ (HC2.out.stay hS2)) HLN.out ?_; intro A5 n5 k5 W5 hn5 hs5 hc5 hg5; refine hK _ _ ?_; clear hK K; have HC25 := hide (show Chg [] W2 W5 from hS2.trans hc5 (fun k hk => .inr (by simp [own, Value.ownBlock] at hk; omega))); have HB45 := hide (XB.stay HB4.out HC25.out)) | (refine wpG_deed (by decide) (fun K hK => ?_); refine wp_storeRs (b := b4) (y := ⟨(N0 : Nat), N8, B.drop 24⟩) (u := .slice A5 n5 k5) _ _ rfl rfl rfl rfl HB45.out ?_; intro W6 h6 hc6; refine hK _ _ ?_; clear hK K) | (refine wpG_calc rfl (fun K hK => ?_)) | (refine wpG_skip ?_ ?_; (focus (simp [wantG]; done)); go_simp) | (refine wpG_take ?_ ?_; (focus (simp [wantG]; done))) | (refine wpG_pure (fun K hK => ?_); go_simp; refine hK _ _ ?_; clear hK K) | (refine wpG_deed (by decide) (fun K hK => ?_); go_simp) | (refine wpG_nil ?_))
    have n5l : n5 = (B.drop 24).length := (RB_cap hs5.re).1
    subst n5l
    have HS6 := hide (show SB W6 (.slice A5 (B.drop 24).length k5) (B.drop 24) from hs5.chg hc6 (fun k hk hk' => SB.not_res hs5 HB45.out (by obtain rfl := List.mem_singleton.1 hk'; exact hk)))
    have HB6 := hide (show XB W6 b2 zRs zV from Blk.chg (XB.stay HB2.out HC25.out) hc6 (by have := HE.out; simp only [List.mem_singleton]; omega))
    have HX6 := hide h6
    have HC6 := hide (show Chg [] w W6 from (HC2.out.stay HC25.out).trans hc6 (fun y hy => .inr (by obtain rfl := List.mem_singleton.1 hy; have := HE.out; omega)))
    have hok := HOK.out
    rw [HX.out] at hok
    have hxo := HXOK.out
    rw [HX.out] at hxo
    have HXO := hide hxo
    have HRO := hide (fun h : rokRs B = true => (show rReadRs B = ⟨(N0 : Nat), N8, B.drop 24⟩ ∧ rReadRsE B = 0 from ⟨(rReadRs_ok h).1.trans HX.out, (rReadRs_ok h).2⟩))
    clear hs5 hc6 hn5 hc5 hg5 HB45 HC25 HOK HXOK hxo h6 hS hS2 HLN hh1 hh2 HHI
    have hS : Chg [] W6 W6.drew := (Chg.refl [] W6).drew
    have HCB := hide (fun W (h : Chg [] W6 W) => run_str (HV.out.stay (HC6.out.stay h)) H8.out)
    have HL24 := hide (show (B.drop 24).length ≤ 100000 by have := HL.out; rw [List.length_drop]; omega)
    generalize B.drop 24 = L9 at *
    cases hm : mayRs ⟨(N0 : Nat), N8, L9⟩ with
    | false =>
      have hno : rokRs B = false := by rw [hok, hm]; rfl
      obtain rfl : R = zRs := by rw [HRE.out.1]; exact (rReadRs_no hno).1
      obtain rfl : E = 5 := by rw [HRE.out.2]; exact (rReadRs_no hno).2
      have HM := hide (fun W => rMayRs_any ⟨(N0 : Nat), N8, L9⟩ (.slice A5 L9.length k5) ⟨_, _, rfl⟩ W)
      rw [hm] at HM
      clear hno hok hm
      refine wp_region_g [5,6,0,0,5,6,6,0,5,0,0] [none, none, none, none, some (27, false), some (27, false), some (27, false), some (27, false), some (27, false), some (27, false), none] [[0,1,2,3,7,8,4,5,6,9,10]] (fun W => Chg [] W6 W) (by kernel_rfl) (by kernel_rfl) (by kernel_rfl) (by kernel_rfl) (fun L hL => ?_)
      obtain rfl := List.mem_singleton.1 hL
      simp only [picks, List.filterMap_cons, List.filterMap_nil, List.getElem?_cons_succ, List.getElem?_cons_zero]
      go_wp2_with (first | (refine wpG_hload 48 _ rfl rfl (fun w' hw' => XB.load (XB.stay HX6.out hw')) hS ?_) | (refine wpG_calc rfl (fun K hK => ?_)) | (refine wpG_skip ?_ ?_; (focus (simp [wantG]; done)); go_simp) | (refine wpG_take ?_ ?_; (focus (simp [wantG]; done))) | (refine wpG_pure (fun K hK => ?_); go_simp; refine hK _ _ ?_; clear hK K) | (refine wpG_deed (by decide) (fun K hK => ?_); go_simp) | (refine wpG_nil ?_))
      (refine wpG_keeps hS (fun K hK => ?_))
      go_simp
      refine (HM.out W6.drew).mono ?_
      rintro e W7 ⟨rfl, hc7⟩
      have hS7 : Chg [] W6 W7 := hS.stay hc7
      refine hK _ _ hS7 ?_
      clear hK K hc7
      have HB7 := hide (XB.stay HB6.out hS7)
      go_wp2_with (first | (refine wpList_storeRs (b := b2) (y := zRs) (u := zV) rfl _ _ rfl rfl rfl rfl HB7.out ?_; intro W8 h8 hc8) | (refine wpG_calc rfl (fun K hK => ?_)) | (refine wpG_skip ?_ ?_; (focus (simp [wantG]; done)); go_simp) | (refine wpG_take ?_ ?_; (focus (simp [wantG]; done))) | (refine wpG_pure (fun K hK => ?_); go_simp; refine hK _ _ ?_; clear hK K) | (refine wpG_deed (by decide) (fun K hK => ?_); go_simp) | (refine wpG_nil ?_))
      refine bodyPost_ret (v := .tuple #[.agg (rsc zRs zV), .int .i64 5]) (results_twoRs (p := 2) (q := 3) rfl _ rfl h8) rfl ⟨⟨none, 0, 0, rfl, RE.nil _ _ _ _ _⟩, ?_⟩
      exact (HC6.out.stay hS7).trans hc8 (fun y hy => .inr (by obtain rfl := List.mem_singleton.1 hy; have := HE.out; omega))
    | true =>
      have HM := hide (fun W => rMayRs_any ⟨(N0 : Nat), N8, L9⟩ (.slice A5 L9.length k5) ⟨_, _, rfl⟩ W)
      rw [hm] at HM
      rw [hm, Bool.true_and] at hok
      have h8e := encRs_b8 HXO.out
      have hsl := strB_list h8e H8.out
      have HOK := hide hok
      have H8E := hide h8e
      clear hok h8e hm
      cases he : decide (encRs ⟨(N0 : Nat), N8, L9⟩ = B) with
      | true =>
        have hyes : rokRs B = true := by rw [HOK.out, of_decide_eq_true he]; simp
        obtain rfl : R = ⟨(N0 : Nat), N8, L9⟩ := by rw [HRE.out.1]; exact (HRO.out hyes).1
        obtain rfl : E = 0 := by rw [HRE.out.2]; exact (HRO.out hyes).2
        rw [he] at hsl
        clear hyes he
        generalize strB B = sy at HCB hsl
        generalize hsx : strB (encRs ⟨(N0 : Nat), N8, L9⟩) = sx at hsl
        have HSX := hide hsx
        clear hsx
        refine wp_region_g [5,6,0,0,5,6,6,0,5,0,0] [none, none, none, none, some (27, false), some (27, false), some (27, false), some (27, false), some (27, false), some (27, false), none] [[0,1,2,3,7,8,4,5,6,9,10]] (fun W => Chg [] W6 W) (by kernel_rfl) (by kernel_rfl) (by kernel_rfl) (by kernel_rfl) (fun L hL => ?_)
        obtain rfl := List.mem_singleton.1 hL
        simp only [picks, List.filterMap_cons, List.filterMap_nil, List.getElem?_cons_succ, List.getElem?_cons_zero]
        go_wp2_with (first | (refine wpG_hload 48 _ rfl rfl (fun w' hw' => XB.load (XB.stay HX6.out hw')) hS ?_) | (refine wpG_calc rfl (fun K hK => ?_)) | (refine wpG_skip ?_ ?_; (focus (simp [wantG]; done)); go_simp) | (refine wpG_take ?_ ?_; (focus (simp [wantG]; done))) | (refine wpG_pure (fun K hK => ?_); go_simp; refine hK _ _ ?_; clear hK K) | (refine wpG_deed (by decide) (fun K hK => ?_); go_simp) | (refine wpG_nil ?_))
        (refine wpG_keeps hS (fun K hK => ?_))
        go_simp
        refine (HM.out W6.drew).mono ?_
        rintro e W7 ⟨rfl, hc7⟩
        have hS7 : Chg [] W6 W7 := hS.stay hc7
        refine hK _ _ hS7 ?_
        clear hK K hc7
        go_wp2_with (first | (refine wpG_hload 48 _ rfl rfl (fun w' hw' => XB.load (XB.stay HX6.out hw')) hS7 ?_) | (refine wpG_hconv 32 9 _ rfl rfl HCB.out hS7 ?_) | (refine wpG_calc rfl (fun K hK => ?_)) | (refine wpG_skip ?_ ?_; (focus (simp [wantG]; done)); go_simp) | (refine wpG_take ?_ ?_; (focus (simp [wantG]; done))) | (refine wpG_pure (fun K hK => ?_); go_simp; refine hK _ _ ?_; clear hK K) | (refine wpG_deed (by decide) (fun K hK => ?_); go_simp) | (refine wpG_nil ?_))
        (refine wpG_keeps hS7 (fun K hK => ?_))
        go_simp
        refine (rRsBytes_any HXO.out HL24.out (HS6.out.stay hS7).re).mono ?_
        rintro e W8 ⟨⟨A8, n8, k8, rfl, hs8, -⟩, hc8⟩
        have hS8 : Chg [] W6 W8 := hS7.stay hc8
        refine hK _ _ hS8 ?_
        clear hK K hc8
        have hcx := run_str hs8.re H8E.out
        rw [HSX.out] at hcx
        have HB8 := hide (XB.stay HB6.out hS8)
        have HX8 := hide (XB.stay HX6.out hS8)
        clear hs8
        go_wp2_with (first | fail | (refine wpG_calc rfl (fun K hK => ?_)) | (refine wpG_skip ?_ ?_; (focus (simp [wantG]; done)); go_simp) | (refine wpG_take ?_ ?_; (focus (simp [wantG]; done))) | (refine wpG_pure (fun K hK => ?_); go_simp; refine hK _ _ ?_; clear hK K) | (refine wpG_deed (by decide) (fun K hK => ?_); go_simp) | (refine wpG_nil ?_))
        (refine wpG_keeps hS8 (fun K hK => ?_))
        go_simp
        refine hK _ _ hS8 ?_
        clear hK K
        go_wp2_with (first | (refine wpList_loadRs rfl _ rfl rfl HX8.out ?_) | (refine wpList_storeRs (b := b2) (y := ⟨(N0 : Nat), N8, L9⟩) (u := .slice A5 L9.length k5) rfl _ _ rfl rfl rfl rfl HB8.out ?_; intro W9 h9 hc9) | (refine wpG_calc rfl (fun K hK => ?_)) | (refine wpG_skip ?_ ?_; (focus (simp [wantG]; done)); go_simp) | (refine wpG_take ?_ ?_; (focus (simp [wantG]; done))) | (refine wpG_pure (fun K hK => ?_); go_simp; refine hK _ _ ?_; clear hK K) | (refine wpG_deed (by decide) (fun K hK => ?_); go_simp) | (refine wpG_nil ?_))
        refine bodyPost_ret (v := .tuple #[.agg (rsc ⟨(N0 : Nat), N8, L9⟩ (.slice A5 L9.length k5)), .int .i64 0]) (results_twoRs (p := 2) (q := 3) rfl _ rfl h9) rfl ⟨⟨A5, L9.length, k5, rfl, ?_⟩, ?_⟩
        · exact ((HS6.out.stay hS8).chg hc9 (fun k hk hk' => SB.not_res (HS6.out.stay hS8) HB8.out (by obtain rfl := List.mem_singleton.1 hk'; exact hk))).re
        · exact (HC6.out.stay hS8).trans hc9 (fun y hy => .inr (by obtain rfl := List.mem_singleton.1 hy; have := HE.out; omega))
      | false =>
        have hno : rokRs B = false := by rw [HOK.out]; exact beq_false_of_ne (of_decide_eq_false he)
        obtain rfl : R = zRs := by rw [HRE.out.1]; exact (rReadRs_no hno).1
        obtain rfl : E = 5 := by rw [HRE.out.2]; exact (rReadRs_no hno).2
        rw [he] at hsl
        clear hno he
        generalize strB B = sy at HCB hsl
        generalize hsx : strB (encRs ⟨(N0 : Nat), N8, L9⟩) = sx at hsl
        have HSX := hide hsx
        clear hsx
        refine wp_region_g [5,6,0,0,5,6,6,0,5,0,0] [none, none, none, none, some (27, false), some (27, false), some (27, false), some (27, false), some (27, false), some (27, false), none] [[0,1,2,3,7,8,4,5,6,9,10]] (fun W => Chg [] W6 W) (by kernel_rfl) (by kernel_rfl) (by kernel_rfl) (by kernel_rfl) (fun L hL => ?_)
        obtain rfl := List.mem_singleton.1 hL
        simp only [picks, List.filterMap_cons, List.filterMap_nil, List.getElem?_cons_succ, List.getElem?_cons_zero]
        go_wp2_with (first | (refine wpG_hload 48 _ rfl rfl (fun w' hw' => XB.load (XB.stay HX6.out hw')) hS ?_) | (refine wpG_calc rfl (fun K hK => ?_)) | (refine wpG_skip ?_ ?_; (focus (simp [wantG]; done)); go_simp) | (refine wpG_take ?_ ?_; (focus (simp [wantG]; done))) | (refine wpG_pure (fun K hK => ?_); go_simp; refine hK _ _ ?_; clear hK K) | (refine wpG_deed (by decide) (fun K hK => ?_); go_simp) | (refine wpG_nil ?_))
        (refine wpG_keeps hS (fun K hK => ?_))
        go_simp
        refine (HM.out W6.drew).mono ?_
        rintro e W7 ⟨rfl, hc7⟩
        have hS7 : Chg [] W6 W7 := hS.stay hc7
        refine hK _ _ hS7 ?_
        clear hK K hc7
        go_wp2_with (first | (refine wpG_hload 48 _ rfl rfl (fun w' hw' => XB.load (XB.stay HX6.out hw')) hS7 ?_) | (refine wpG_hconv 32 9 _ rfl rfl HCB.out hS7 ?_) | (refine wpG_calc rfl (fun K hK => ?_)) | (refine wpG_skip ?_ ?_; (focus (simp [wantG]; done)); go_simp) | (refine wpG_take ?_ ?_; (focus (simp [wantG]; done))) | (refine wpG_pure (fun K hK => ?_); go_simp; refine hK _ _ ?_; clear hK K) | (refine wpG_deed (by decide) (fun K hK => ?_); go_simp) | (refine wpG_nil ?_))
        (refine wpG_keeps hS7 (fun K hK => ?_))
        go_simp
        refine (rRsBytes_any HXO.out HL24.out (HS6.out.stay hS7).re).mono ?_
        rintro e W8 ⟨⟨A8, n8, k8, rfl, hs8, -⟩, hc8⟩
        have hS8 : Chg [] W6 W8 := hS7.stay hc8
        refine hK _ _ hS8 ?_
        clear hK K hc8
        have hcx := run_str hs8.re H8E.out
        rw [HSX.out] at hcx
        have HB8 := hide (XB.stay HB6.out hS8)
        have HX8 := hide (XB.stay HX6.out hS8)
        clear hs8
        go_wp2_with (first | fail | (refine wpG_calc rfl (fun K hK => ?_)) | (refine wpG_skip ?_ ?_; (focus (simp [wantG]; done)); go_simp) | (refine wpG_take ?_ ?_; (focus (simp [wantG]; done))) | (refine wpG_pure (fun K hK => ?_); go_simp; refine hK _ _ ?_; clear hK K) | (refine wpG_deed (by decide) (fun K hK => ?_); go_simp) | (refine wpG_nil ?_))
        (refine wpG_keeps hS8 (fun K hK => ?_))
        go_simp
        refine hK _ _ hS8 ?_
        clear hK K
        go_wp2_with (first | (refine wpList_storeRs (b := b2) (y := zRs) (u := zV) rfl _ _ rfl rfl rfl rfl HB8.out ?_; intro W9 h9 hc9) | (refine wpG_calc rfl (fun K hK => ?_)) | (refine wpG_skip ?_ ?_; (focus (simp [wantG]; done)); go_simp) | (refine wpG_take ?_ ?_; (focus (simp [wantG]; done))) | (refine wpG_pure (fun K hK => ?_); go_simp; refine hK _ _ ?_; clear hK K) | (refine wpG_deed (by decide) (fun K hK => ?_); go_simp) | (refine wpG_nil ?_))
        refine bodyPost_ret (v := .tuple #[.agg (rsc zRs zV), .int .i64 5]) (results_twoRs (p := 2) (q := 3) rfl _ rfl h9) rfl ⟨⟨none, 0, 0, rfl, RE.nil _ _ _ _ _⟩, ?_⟩
        exact (HC6.out.stay hS8).trans hc9 (fun y hy => .inr (by obtain rfl := List.mem_singleton.1 hy; have := HE.out; omega))
end Go.Proofs.YtinlpjgjjplceaaDoor
