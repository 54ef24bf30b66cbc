/- Texts merged for the claim: TxP, MvE, CfO, CcD, MrO. -/
import Derived.Test.YtfoleblcaloeoaaDoorZak
import Derived.Test.YtfoleblcaloeoaaDoorZas
import Derived.Test.YtfoleblcaloeoaaDoorZab
import Derived.Test.YtfoleblcaloeoaaDoorZai
import Derived.Test.YtfoleblcaloeoaaDoorZar
import Derived.Deep.CutRange
import Derived.Deep.CutBlock
import Derived.Carry
import Derived.ProofKit
import Derived.OpenShut
import Derived.Test.YtfoleblcaloeoaaDoorTie
import Derived.LaidMore
import Derived.Lay
import Derived.MakeChecks
/- The walk of a plain region, its guards given by their slots. -/
namespace Go.Proofs.YtfoleblcaloeoaaDoor
open Go
section
variable {P : Program} {ops : Array Oper}
theorem wpG_list {S : World → Prop} {Q : Exit → Act → World → Prop} : ∀ (l : List Oper) (ks : List Nat) (gs : List (Option (Nat × Bool))) (a : Act) (w : World), (l.zip gs).length = l.length → ((l.zip gs).all fun (o, g) => guardOk ops o g) = true → wpG P S Q l ks gs a w → wpList P ops Q l a w
  | [], _, _, a, w, _, _, h => by unfold wpG at h; exact h
  | o :: l, ks, [], a, w, h, _, _ => by simp at h
  | o :: l, ks, g :: gs, a, w, h, hg, hw => by
    simp only [List.zip_cons_cons, List.all_cons, Bool.and_eq_true, List.length_cons] at h hg
    have ih := fun ks a w => wpG_list (S := S) (Q := Q) l ks gs a w (by omega) hg.2
    unfold wpG at hw
    rw [List.headD_cons, ← guardOk_spec hg.1 a] at hw
    refine wpList_step fun K hK => ?_
    by_cases hwa : Region.wanted o (yielded ops a.tmps) = true
    · rw [if_pos hwa] at hw ⊢
      by_cases h0 : ks.headD 3 = 0
      · rw [if_pos h0] at hw
        obtain ⟨v, hv, hr⟩ := hw
        unfold Oper.wp
        rw [hv w]
        exact hK _ _ (ih _ _ _ hr)
      rw [if_neg h0] at hw
      by_cases h5 : ks.headD 3 = 5
      · rw [if_pos h5] at hw
        obtain ⟨hS, v, hv, hr⟩ := hw
        exact wp_noQ ((hv w hS).wp (hK _ _ (ih _ _ _ hr)))
      rw [if_neg h5] at hw
      by_cases h6 : ks.headD 3 = 6
      · rw [if_pos h6] at hw
        exact wp_noQ (Oper.wp_mono (fun a' w' hh => hK _ _ (ih _ _ _ hh.2)) hw.2)
      rw [if_neg h6] at hw
      exact wp_noQ (Oper.wp_mono (fun a' w' hh => hK _ _ (ih _ _ _ hh)) hw)
    · rw [if_neg hwa] at hw ⊢
      exact hK _ _ (ih _ _ _ hw)
/-- THE RULE for a plain region -/
theorem wp_region_p {id : Nat} {l : List Oper} {Q : Exit → Act → World → Prop} {a : Act} {w : World} (ks : List Nat) (gs : List (Option (Nat × Bool))) (S : World → Prop) (hR : restB l ks gs = true)
    (h : wpG P S Q l ks gs a w) : (Code.region id l.toArray false).wp P Q a w := by
  simp only [restB, Bool.and_eq_true, beq_iff_eq] at hR
  obtain ⟨⟨hk, hg⟩, hgd⟩ := hR
  exact wp_region_lit (wpG_list l ks gs a w (by rw [List.length_zip]; omega) hgd h)
end
end Go.Proofs.YtfoleblcaloeoaaDoor

/- ModelApart: its walk (printed by genmve.py). -/
namespace Go.Proofs.YtfoleblcaloeoaaDoor
open Go Go.RowKit

def zTw : Array Value := (clc zCl zV) ++ (#[.int .i64 0, .int .u64 0, zV] ++ #[.bool false, .int .u64 0])
theorem zeroTw : ∀ w, (zeroValue 47).run Tryd.prog w = .ok (.agg zTw) w := by
  have h : (Tryd.prog.info? 47).map (fun i => (i.zero, i.size)) = some (some (.agg zTw), 17) := by kernel_rfl
  exact (zero_of_info h).1
theorem fill_two (a b : Tw) : Instr.fill (fun i => some (i * 17, 17)) ((Array.range (2 * 17)).map (zTw[· % zTw.size]!)) [(0, .agg (twl a).toArray), (1, .agg (twl b).toArray)] = some ((twl a).toArray ++ (twl b).toArray) := by
  obtain ⟨⟨_, _, _, _, _, _, _, _, _, _, _, _⟩, _, ⟨_, _, _⟩, _, _, _⟩ := a
  obtain ⟨⟨_, _, _, _, _, _, _, _, _, _, _, _⟩, _, ⟨_, _, _⟩, _, _, _⟩ := b
  kernel_rfl
set_option maxRecDepth 20000 in
theorem run_two (w : World) (a b : Tw) : (Instr.buildSlice 28 2 #[(0, .agg (twl a).toArray), (1, .agg (twl b).toArray)]).run Tryd.prog w = .ok (.slice (some ⟨w.heap.size, 0, none⟩) 2 2) (w.alloc (.cells ((twl a).toArray ++ (twl b).toArray) 47)) := by
  unfold Instr.buildSlice
  simp only [Sem.run_bind, run_underlying Tryd.underlying28, Result.andThen_ok, size47]
  rw [if_neg (by decide), if_neg (by decide)]
  simp only [Sem.run_bind, Sem.run_pure, zeroTw, Result.andThen_ok, Value.cells]
  rw [fill_two]
  simp [newRow, run_newObj_alloc, Sem.run_bind]
section
variable {ops : Array Oper} {rest : List Oper} {o : Oper} {act : Act} {w : World} {Q : Exit → Act → World → Prop}
theorem wpList_twoW (a b : Tw) (parts : Array (Nat × Operand)) (ho : o.op = .buildSlice 28 2 parts) (hw : Region.wanted o (yielded ops act.tmps) = true)
    (hl : (parts.map fun (i, x) => (i, act.eval x)) = #[(0, .agg (twl a).toArray), (1, .agg (twl b).toArray)])
    (h : ∀ w', RE twl 17 w' (.slice (some ⟨w.heap.size, 0, none⟩) 2 2) [a, b] → Chg [] w w' → wpList Tryd.prog ops Q rest (act.put o.dst (.slice (some ⟨w.heap.size, 0, none⟩) 2 2)) w') : wpList Tryd.prog ops Q (o :: rest) act w :=
  wpList_step fun K hK => by
    rw [if_pos hw]
    unfold Oper.wp execOp
    simp only [ho, Sem.run_bind, hl, run_two, Sem.run_pure, Result.andThen_ok]
    exact hK _ _ (h _ (RE.two w) ((Chg.refl [] w).alloc _))
end
set_option maxRecDepth 20000 in
set_option maxHeartbeats 40000000 in
theorem apart_law {w : World} (hf : FW w) (c : Cf) {l : List Tw} {vl : Value} (hvl : RE twl 17 w vl l) (hlo : ∀ t ∈ l, TwOk w t) {a b : Tw} (ha : TwOk w a) (hb : TwOk w b) :
    Calls Tryd.prog 5 #[.agg (cg c), vl, .agg (twl a).toArray, .agg (twl b).toArray] w fun e w' => e = .returned (.bool true) ∧ Chg [] w w' := by
  obtain ⟨A1, c1, rfl⟩ := RE.form hvl
  obtain ⟨W1, hW1⟩ : ∃ W1, W1 = w.alloc (.cells (cg c) 26) := ⟨_, rfl⟩
  obtain ⟨W2, hW2⟩ : ∃ W2, W2 = W1.alloc (.cells (twl a).toArray 47) := ⟨_, rfl⟩
  obtain ⟨W3, hW3⟩ : ∃ W3, W3 = W2.alloc (.cells (twl b).toArray 47) := ⟨_, rfl⟩
  have c01 : Chg [] w W1 := by rw [hW1]; exact (Chg.refl [] w).alloc _
  have c12 : Chg [] W1 W2 := by rw [hW2]; exact (Chg.refl [] W1).alloc _
  have c23 : Chg [] W2 W3 := by rw [hW3]; exact (Chg.refl [] W2).alloc _
  have c13 := c12.stay c23
  have c03 := c01.stay c13
  have hcb : CB W3 w.heap.size c := Blk.chg (show CB W1 w.heap.size c by rw [hW1]; exact Blk.new w 26 _) c13 List.not_mem_nil
  have hta : TB W3 W1.heap.size a := Blk.chg (show TB W2 W1.heap.size a by rw [hW2]; exact Blk.new W1 _ _) c23 List.not_mem_nil
  have htb : TB W3 W2.heap.size b := by rw [hW3]; exact Blk.new W2 _ _
  have HF := hide (hf.stay c03)
  have HM := hide (fun W => rMay_any c W)
  have HK := hide (fun W (h : Chg [] W3 W) => known_any (hf.stay (c03.stay h)))
  have HT := hide (tame_any (hvl.stay c03) (fun t ht => (hlo t ht).stay c03) (n := 30) (by omega))
  have HVL := hide (fun W (h : Chg [] W3 W) => RE.stay hvl (c03.stay h))
  have HLO := hide (fun W (h : Chg [] W3 W) t ht => (hlo t ht).stay (c03.stay h))
  have HCB := hide (fun W (h : Chg [] W3 W) => (Blk.chg hcb h List.not_mem_nil : CB W w.heap.size c))
  have HA := hide (fun W (h : Chg [] W3 W) => (Blk.chg hta h List.not_mem_nil : TB W W1.heap.size a))
  have HB := hide (fun W (h : Chg [] W3 W) => (Blk.chg htb h List.not_mem_nil : TB W W2.heap.size b))
  have HAO := hide (fun W (h : Chg [] W3 W) => ha.stay (c03.stay h))
  have HBO := hide (fun W (h : Chg [] W3 W) => hb.stay (c03.stay h))
  have HC03 := hide c03
  have HC0 := hide (Chg.refl [] W3)
  have HW1 := hide hW1
  have HW2 := hide hW2
  have HW3 := hide hW3
  have e1 : W1.heap.size = w.heap.size + 1 := by rw [hW1]; exact World.size_alloc _ _
  have e2 : W2.heap.size = W1.heap.size + 1 := by rw [hW2]; exact World.size_alloc _ _
  have HSZ := hide (And.intro e1 e2)
  clear hf c01 c12 c23 c13 c03 hcb hta htb hvl hlo ha hb hW1 hW2 hW3 e1 e2
  go_enter Tryd.func5, Tryd.ntmps5
  go_upto_region 1 with (first | (refine wpList_box26 rfl _ rfl rfl ?_; try rw [← HW1.out]) | (refine wpList_box47 (t := a) rfl _ rfl rfl ?_; try rw [← HW2.out]) | (refine wpList_box47 (t := b) rfl _ rfl rfl ?_; try rw [← HW3.out]))
  go_wp2_with fail
  refine HT.out.mono ?_
  rintro e W1' ⟨rfl, rfl⟩
  cases htm : tameB l 30 with
  | false =>
    clear htm
    have HC := HC0
    go_wp2_with fail
    refine (HK.out _ HC.out).mono ?_
    rintro e W9 ⟨rfl, hc9⟩
    go_wp2_with fail
    go_ret
    exact ⟨rfl, HC03.out.stay (HC.out.stay hc9)⟩
  | true =>
  have HTM := hide htm
  clear htm
  go_wp2_with (first | (refine wpList_load47W (b := W1.heap.size) (t := a) _ rfl rfl ?_ (HA.out _ HC0.out) ?_; (focus (simp [Region.wanted, yielded, Act.put]; done))) | (refine wpList_load47W (b := W2.heap.size) (t := b) _ rfl rfl ?_ (HB.out _ HC0.out) ?_; (focus (simp [Region.wanted, yielded, Act.put]; done))) | (refine wpList_twoW a b _ rfl ?_ ?_ ?_; (focus (simp [Region.wanted, yielded, Act.put]; done)); (focus (simp [Act.eval, Act.put]; done)); intro V1 hre hv1))
  have HC1 := hide hv1
  have HT2 := hide (tame_any hre (fun t ht => by
    rcases List.mem_cons.1 ht with rfl | ht
    · exact HAO.out V1 HC1.out
    · obtain rfl := List.mem_singleton.1 ht
      exact HBO.out V1 HC1.out) (n := 2) (by omega))
  clear hv1 hre
  refine HT2.out.mono ?_
  rintro e V1' ⟨rfl, rfl⟩
  cases htm : tameB [a, b] 2 with
  | false =>
    clear htm
    have HC := HC1
    go_wp2_with fail
    refine (HK.out _ HC.out).mono ?_
    rintro e W9 ⟨rfl, hc9⟩
    go_wp2_with fail
    go_ret
    exact ⟨rfl, HC03.out.stay (HC.out.stay hc9)⟩
  | true =>
  clear htm HT2
  go_wp2_with (first | (refine wpList_load26W (b := w.heap.size) (c := c) _ rfl rfl ?_ (HCB.out _ HC1.out) ?_; (focus (simp [Region.wanted, yielded, Act.put]; done))))
  refine (HM.out _).mono ?_
  rintro e V2 ⟨rfl, hc2⟩
  have HC2 := hide (HC1.out.stay hc2)
  clear hc2
  cases hm : mayB c with
  | false =>
    clear hm
    have HC := HC2
    go_wp2_with fail
    refine (HK.out _ HC.out).mono ?_
    rintro e W9 ⟨rfl, hc9⟩
    go_wp2_with fail
    go_ret
    exact ⟨rfl, HC03.out.stay (HC.out.stay hc9)⟩
  | true =>
  have HMB := hide hm
  clear hm
  obtain ⟨ak, hak⟩ : ∃ z : Int, z = (a.x.k : Int) := ⟨_, rfl⟩
  obtain ⟨bk, hbk⟩ : ∃ z : Int, z = (b.x.k : Int) := ⟨_, rfl⟩
  have qa := TB.cellX (HA.out V2 HC2.out) (j := 0) (u := .int .u8 ak) (by omega) (by rw [hak]; rfl)
  have qb := TB.cellX (HB.out V2 HC2.out) (j := 0) (u := .int .u8 bk) (by omega) (by rw [hbk]; rfl)
  have la := Blk.lt (HA.out V2 HC2.out)
  have lb := Blk.lt (HB.out V2 HC2.out)
  have HAK := hide (And.intro hak hbk)
  have HC := HC2
  clear hak hbk
  by_cases ka1 : ak = 1
  · have da1 : (ak == 1) = true := by rw [ka1]; rfl
    clear ka1
    go_wp2_with fail
    refine (HK.out _ HC.out).mono ?_
    rintro e W9 ⟨rfl, hc9⟩
    go_wp2_with fail
    go_ret
    exact ⟨rfl, HC03.out.stay (HC.out.stay hc9)⟩
  have da1 : (ak == 1) = false := beq_false_of_ne ka1
  by_cases kb1 : bk = 1
  · have db1 : (bk == 1) = true := by rw [kb1]; rfl
    clear kb1
    go_wp2_with fail
    refine (HK.out _ HC.out).mono ?_
    rintro e W9 ⟨rfl, hc9⟩
    go_wp2_with fail
    go_ret
    exact ⟨rfl, HC03.out.stay (HC.out.stay hc9)⟩
  have db1 : (bk == 1) = false := beq_false_of_ne kb1
  by_cases ka2 : ak = 10
  · have da2 : (ak == 10) = true := by rw [ka2]; rfl
    clear ka2
    go_wp2_with fail
    refine (HK.out _ HC.out).mono ?_
    rintro e W9 ⟨rfl, hc9⟩
    go_wp2_with fail
    go_ret
    exact ⟨rfl, HC03.out.stay (HC.out.stay hc9)⟩
  have da2 : (ak == 10) = false := beq_false_of_ne ka2
  by_cases kb2 : bk = 10
  · have db2 : (bk == 10) = true := by rw [kb2]; rfl
    clear kb2
    go_wp2_with fail
    refine (HK.out _ HC.out).mono ?_
    rintro e W9 ⟨rfl, hc9⟩
    go_wp2_with fail
    go_ret
    exact ⟨rfl, HC03.out.stay (HC.out.stay hc9)⟩
  have db2 : (bk == 10) = false := beq_false_of_ne kb2
  have HNK := hide (show a.x.k ≠ 1 ∧ b.x.k ≠ 1 ∧ a.x.k ≠ 10 ∧ b.x.k ≠ 10 from ⟨fun h => ka1 (by have := HAK.out; omega), fun h => kb1 (by have := HAK.out; omega), fun h => ka2 (by have := HAK.out; omega), fun h => kb2 (by have := HAK.out; omega)⟩)
  go_upto_region 4 with (fail)
  clear ka1 kb1 ka2 kb2 da1 db1 da2 db2 qa qb
  obtain ⟨T, hT⟩ : ∃ T, T = ((obK a.x && obK b.x && decide (a.x.h = b.x.h)) || (!obK a.x && !obK b.x && decide (a.x.p = b.x.p))) := ⟨_, rfl⟩
  have HTT := hide hT
  clear hT
  obtain ⟨ah, hah⟩ : ∃ z : Int, z = (a.x.h : Int) := ⟨_, rfl⟩
  obtain ⟨bh, hbh⟩ : ∃ z : Int, z = (b.x.h : Int) := ⟨_, rfl⟩
  obtain ⟨ap, hap⟩ : ∃ z : Int, z = a.x.p := ⟨_, rfl⟩
  obtain ⟨bp, hbp⟩ : ∃ z : Int, z = b.x.p := ⟨_, rfl⟩
  have HQ := hide (fun V (h : Chg [] W3 V) => (show V.cell? ⟨W1.heap.size, 10, none⟩ = some (.int .u64 ah) ∧ V.cell? ⟨W2.heap.size, 10, none⟩ = some (.int .u64 bh) ∧ V.cell? ⟨W1.heap.size, 1, none⟩ = some (.int .i64 ap) ∧ V.cell? ⟨W2.heap.size, 1, none⟩ = some (.int .i64 bp) ∧ W1.heap.size < V.heap.size ∧ W2.heap.size < V.heap.size from
    ⟨TB.cellX (HA.out V h) (by omega) (by rw [hah]; rfl), TB.cellX (HB.out V h) (by omega) (by rw [hbh]; rfl), TB.cellX (HA.out V h) (by omega) (by rw [hap]; rfl), TB.cellX (HB.out V h) (by omega) (by rw [hbp]; rfl), Blk.lt (HA.out V h), Blk.lt (HB.out V h)⟩))
  have HHH := hide (And.intro hah hbh)
  have HPP := hide (And.intro hap hbp)
  clear hah hbh hap hbp la lb
  go_cut [99] from 58 to 98 (fun z wc => z = .bool T ∧ Hid (Chg [] W3 wc))
  case first =>
    refine wp_region_p [0,0,5,6,0,0,0,5,6,0,0,0,0,5,0,0,5,0,0,0,0,0,5,6,0,0,0,0,5,6,0,0,0,0,0,5,0,0,5,0,0,0] [none, none, none, none, none, some (62, true), some (62, true), some (62, true), some (62, true), none, none, some (68, true), some (68, true), some (68, true), some (68, true), some (68, true), some (68, true), some (68, true), none, none, some (77, false), some (77, false), some (77, false), some (77, false), some (77, false), some (77, false), some (83, true), some (83, true), some (83, true), some (83, true), some (83, true), some (77, false), some (77, false), some (90, true), some (90, true), some (90, true), some (90, true), some (90, true), some (90, true), some (90, true), some (77, false), none] (fun W => Chg [] W3 W) (by kernel_rfl) ?_
    have hS : Chg [] W3 V2 := HC.out
    cases ho : obK a.x with
    | true =>
      have HOA := hide ho
      clear ho
      cases hp : obK b.x with
      | true =>
        have HOB := hide hp
        clear hp
        go_wp2_with (first | (refine wpG_hload 42 (ad := ⟨W1.heap.size, 0, none⟩) (v := .agg (clc a.x a.v)) _ rfl rfl (fun w' hw' => TB.loadX (b := W1.heap.size) (t := a) (HA.out w' hw')) hS ?_) | (refine wpG_hload 42 (ad := ⟨W2.heap.size, 0, none⟩) (v := .agg (clc b.x b.v)) _ rfl rfl (fun w' hw' => TB.loadX (b := W2.heap.size) (t := b) (HB.out w' hw')) hS ?_) | (refine wpG_hload 40 (ad := ⟨W1.heap.size, 10, none⟩) (v := .int .u64 ah) _ rfl rfl (fun w' hw' => load_int Tryd.underlying40 (HQ.out w' hw').1) hS ?_) | (refine wpG_hload 40 (ad := ⟨W2.heap.size, 10, none⟩) (v := .int .u64 bh) _ rfl rfl (fun w' hw' => load_int Tryd.underlying40 (HQ.out w' hw').2.1) hS ?_) | (refine wpG_hload 3 (ad := ⟨W1.heap.size, 1, none⟩) (v := .int .i64 ap) _ rfl rfl (fun w' hw' => load_int Tryd.underlying3 (HQ.out w' hw').2.2.1) hS ?_) | (refine wpG_hload 3 (ad := ⟨W2.heap.size, 1, none⟩) (v := .int .i64 bp) _ rfl rfl (fun w' hw' => load_int Tryd.underlying3 (HQ.out w' hw').2.2.2.1) hS ?_) | (refine wpG_skip ?_ ?_; (focus (simp [wantG, undef]; done)); go_simp) | (refine wpG_calc rfl (fun K hK => ?_)) | (refine wpG_skip ?_ ?_; (focus (simp [wantG]; done)); go_simp) | (refine wpG_take ?_ ?_; (focus (simp [wantG]; done))) | (refine wpG_pure (fun K hK => ?_); go_simp; refine hK _ _ ?_; clear hK K) | (refine wpG_deed (by decide) (fun K hK => ?_); go_simp) | (refine wpG_nil ?_))
        (refine wpG_keeps hS (fun K hK => ?_))
        go_simp
        refine (objects_any a.x a.v _).mono ?_
        rintro e V ⟨rfl, hv⟩
        rw [HOA.out]
        replace hS := hS.stay hv
        refine hK _ _ hS ?_
        clear hK K hv
        go_wp2_with (first | (refine wpG_hload 42 (ad := ⟨W1.heap.size, 0, none⟩) (v := .agg (clc a.x a.v)) _ rfl rfl (fun w' hw' => TB.loadX (b := W1.heap.size) (t := a) (HA.out w' hw')) hS ?_) | (refine wpG_hload 42 (ad := ⟨W2.heap.size, 0, none⟩) (v := .agg (clc b.x b.v)) _ rfl rfl (fun w' hw' => TB.loadX (b := W2.heap.size) (t := b) (HB.out w' hw')) hS ?_) | (refine wpG_hload 40 (ad := ⟨W1.heap.size, 10, none⟩) (v := .int .u64 ah) _ rfl rfl (fun w' hw' => load_int Tryd.underlying40 (HQ.out w' hw').1) hS ?_) | (refine wpG_hload 40 (ad := ⟨W2.heap.size, 10, none⟩) (v := .int .u64 bh) _ rfl rfl (fun w' hw' => load_int Tryd.underlying40 (HQ.out w' hw').2.1) hS ?_) | (refine wpG_hload 3 (ad := ⟨W1.heap.size, 1, none⟩) (v := .int .i64 ap) _ rfl rfl (fun w' hw' => load_int Tryd.underlying3 (HQ.out w' hw').2.2.1) hS ?_) | (refine wpG_hload 3 (ad := ⟨W2.heap.size, 1, none⟩) (v := .int .i64 bp) _ rfl rfl (fun w' hw' => load_int Tryd.underlying3 (HQ.out w' hw').2.2.2.1) hS ?_) | (refine wpG_skip ?_ ?_; (focus (simp [wantG, undef]; done)); go_simp) | (refine wpG_calc rfl (fun K hK => ?_)) | (refine wpG_skip ?_ ?_; (focus (simp [wantG]; done)); go_simp) | (refine wpG_take ?_ ?_; (focus (simp [wantG]; done))) | (refine wpG_pure (fun K hK => ?_); go_simp; refine hK _ _ ?_; clear hK K) | (refine wpG_deed (by decide) (fun K hK => ?_); go_simp) | (refine wpG_nil ?_))
        (refine wpG_keeps hS (fun K hK => ?_))
        go_simp
        refine (objects_any b.x b.v _).mono ?_
        rintro e V ⟨rfl, hv⟩
        rw [HOB.out]
        replace hS := hS.stay hv
        refine hK _ _ hS ?_
        clear hK K hv
        by_cases e : ah = bh
        · have de : (ah == bh) = true := by rw [e]; simp
          have HTV := hide (show T = true by rw [HTT.out, HOA.out, HOB.out, decide_eq_true (show a.x.h = b.x.h by have := HHH.out; omega)]; rfl)
          clear e
          go_wp2_with (first | (refine wpG_hload 42 (ad := ⟨W1.heap.size, 0, none⟩) (v := .agg (clc a.x a.v)) _ rfl rfl (fun w' hw' => TB.loadX (b := W1.heap.size) (t := a) (HA.out w' hw')) hS ?_) | (refine wpG_hload 42 (ad := ⟨W2.heap.size, 0, none⟩) (v := .agg (clc b.x b.v)) _ rfl rfl (fun w' hw' => TB.loadX (b := W2.heap.size) (t := b) (HB.out w' hw')) hS ?_) | (refine wpG_hload 40 (ad := ⟨W1.heap.size, 10, none⟩) (v := .int .u64 ah) _ rfl rfl (fun w' hw' => load_int Tryd.underlying40 (HQ.out w' hw').1) hS ?_) | (refine wpG_hload 40 (ad := ⟨W2.heap.size, 10, none⟩) (v := .int .u64 bh) _ rfl rfl (fun w' hw' => load_int Tryd.underlying40 (HQ.out w' hw').2.1) hS ?_) | (refine wpG_hload 3 (ad := ⟨W1.heap.size, 1, none⟩) (v := .int .i64 ap) _ rfl rfl (fun w' hw' => load_int Tryd.underlying3 (HQ.out w' hw').2.2.1) hS ?_) | (refine wpG_hload 3 (ad := ⟨W2.heap.size, 1, none⟩) (v := .int .i64 bp) _ rfl rfl (fun w' hw' => load_int Tryd.underlying3 (HQ.out w' hw').2.2.2.1) hS ?_) | (refine wpG_skip ?_ ?_; (focus (simp [wantG, undef]; done)); go_simp) | (refine wpG_calc rfl (fun K hK => ?_)) | (refine wpG_skip ?_ ?_; (focus (simp [wantG]; done)); go_simp) | (refine wpG_take ?_ ?_; (focus (simp [wantG]; done))) | (refine wpG_pure (fun K hK => ?_); go_simp; refine hK _ _ ?_; clear hK K) | (refine wpG_deed (by decide) (fun K hK => ?_); go_simp) | (refine wpG_nil ?_))
          go_meet
          case rel => exact ⟨by rw [HTV.out], hide hS⟩
        · have de : (ah == bh) = false := beq_false_of_ne e
          have HTV := hide (show T = false by rw [HTT.out, HOA.out, HOB.out, decide_eq_false (show ¬ a.x.h = b.x.h by have := HHH.out; omega)]; rfl)
          clear e
          go_wp2_with (first | (refine wpG_hload 42 (ad := ⟨W1.heap.size, 0, none⟩) (v := .agg (clc a.x a.v)) _ rfl rfl (fun w' hw' => TB.loadX (b := W1.heap.size) (t := a) (HA.out w' hw')) hS ?_) | (refine wpG_hload 42 (ad := ⟨W2.heap.size, 0, none⟩) (v := .agg (clc b.x b.v)) _ rfl rfl (fun w' hw' => TB.loadX (b := W2.heap.size) (t := b) (HB.out w' hw')) hS ?_) | (refine wpG_hload 40 (ad := ⟨W1.heap.size, 10, none⟩) (v := .int .u64 ah) _ rfl rfl (fun w' hw' => load_int Tryd.underlying40 (HQ.out w' hw').1) hS ?_) | (refine wpG_hload 40 (ad := ⟨W2.heap.size, 10, none⟩) (v := .int .u64 bh) _ rfl rfl (fun w' hw' => load_int Tryd.underlying40 (HQ.out w' hw').2.1) hS ?_) | (refine wpG_hload 3 (ad := ⟨W1.heap.size, 1, none⟩) (v := .int .i64 ap) _ rfl rfl (fun w' hw' => load_int Tryd.underlying3 (HQ.out w' hw').2.2.1) hS ?_) | (refine wpG_hload 3 (ad := ⟨W2.heap.size, 1, none⟩) (v := .int .i64 bp) _ rfl rfl (fun w' hw' => load_int Tryd.underlying3 (HQ.out w' hw').2.2.2.1) hS ?_) | (refine wpG_skip ?_ ?_; (focus (simp [wantG, undef]; done)); go_simp) | (refine wpG_calc rfl (fun K hK => ?_)) | (refine wpG_skip ?_ ?_; (focus (simp [wantG]; done)); go_simp) | (refine wpG_take ?_ ?_; (focus (simp [wantG]; done))) | (refine wpG_pure (fun K hK => ?_); go_simp; refine hK _ _ ?_; clear hK K) | (refine wpG_deed (by decide) (fun K hK => ?_); go_simp) | (refine wpG_nil ?_))
          (refine wpG_keeps hS (fun K hK => ?_))
          go_simp
          refine (objects_any a.x a.v _).mono ?_
          rintro e V ⟨rfl, hv⟩
          rw [HOA.out]
          replace hS := hS.stay hv
          refine hK _ _ hS ?_
          clear hK K hv
          go_wp2_with (first | (refine wpG_hload 42 (ad := ⟨W1.heap.size, 0, none⟩) (v := .agg (clc a.x a.v)) _ rfl rfl (fun w' hw' => TB.loadX (b := W1.heap.size) (t := a) (HA.out w' hw')) hS ?_) | (refine wpG_hload 42 (ad := ⟨W2.heap.size, 0, none⟩) (v := .agg (clc b.x b.v)) _ rfl rfl (fun w' hw' => TB.loadX (b := W2.heap.size) (t := b) (HB.out w' hw')) hS ?_) | (refine wpG_hload 40 (ad := ⟨W1.heap.size, 10, none⟩) (v := .int .u64 ah) _ rfl rfl (fun w' hw' => load_int Tryd.underlying40 (HQ.out w' hw').1) hS ?_) | (refine wpG_hload 40 (ad := ⟨W2.heap.size, 10, none⟩) (v := .int .u64 bh) _ rfl rfl (fun w' hw' => load_int Tryd.underlying40 (HQ.out w' hw').2.1) hS ?_) | (refine wpG_hload 3 (ad := ⟨W1.heap.size, 1, none⟩) (v := .int .i64 ap) _ rfl rfl (fun w' hw' => load_int Tryd.underlying3 (HQ.out w' hw').2.2.1) hS ?_) | (refine wpG_hload 3 (ad := ⟨W2.heap.size, 1, none⟩) (v := .int .i64 bp) _ rfl rfl (fun w' hw' => load_int Tryd.underlying3 (HQ.out w' hw').2.2.2.1) hS ?_) | (refine wpG_skip ?_ ?_; (focus (simp [wantG, undef]; done)); go_simp) | (refine wpG_calc rfl (fun K hK => ?_)) | (refine wpG_skip ?_ ?_; (focus (simp [wantG]; done)); go_simp) | (refine wpG_take ?_ ?_; (focus (simp [wantG]; done))) | (refine wpG_pure (fun K hK => ?_); go_simp; refine hK _ _ ?_; clear hK K) | (refine wpG_deed (by decide) (fun K hK => ?_); go_simp) | (refine wpG_nil ?_))
          go_meet
          case rel => exact ⟨by rw [HTV.out], hide hS⟩
      | false =>
        have HOB := hide hp
        clear hp
        have HTV := hide (show T = false by rw [HTT.out, HOA.out, HOB.out]; rfl)
        go_wp2_with (first | (refine wpG_hload 42 (ad := ⟨W1.heap.size, 0, none⟩) (v := .agg (clc a.x a.v)) _ rfl rfl (fun w' hw' => TB.loadX (b := W1.heap.size) (t := a) (HA.out w' hw')) hS ?_) | (refine wpG_hload 42 (ad := ⟨W2.heap.size, 0, none⟩) (v := .agg (clc b.x b.v)) _ rfl rfl (fun w' hw' => TB.loadX (b := W2.heap.size) (t := b) (HB.out w' hw')) hS ?_) | (refine wpG_hload 40 (ad := ⟨W1.heap.size, 10, none⟩) (v := .int .u64 ah) _ rfl rfl (fun w' hw' => load_int Tryd.underlying40 (HQ.out w' hw').1) hS ?_) | (refine wpG_hload 40 (ad := ⟨W2.heap.size, 10, none⟩) (v := .int .u64 bh) _ rfl rfl (fun w' hw' => load_int Tryd.underlying40 (HQ.out w' hw').2.1) hS ?_) | (refine wpG_hload 3 (ad := ⟨W1.heap.size, 1, none⟩) (v := .int .i64 ap) _ rfl rfl (fun w' hw' => load_int Tryd.underlying3 (HQ.out w' hw').2.2.1) hS ?_) | (refine wpG_hload 3 (ad := ⟨W2.heap.size, 1, none⟩) (v := .int .i64 bp) _ rfl rfl (fun w' hw' => load_int Tryd.underlying3 (HQ.out w' hw').2.2.2.1) hS ?_) | (refine wpG_skip ?_ ?_; (focus (simp [wantG, undef]; done)); go_simp) | (refine wpG_calc rfl (fun K hK => ?_)) | (refine wpG_skip ?_ ?_; (focus (simp [wantG]; done)); go_simp) | (refine wpG_take ?_ ?_; (focus (simp [wantG]; done))) | (refine wpG_pure (fun K hK => ?_); go_simp; refine hK _ _ ?_; clear hK K) | (refine wpG_deed (by decide) (fun K hK => ?_); go_simp) | (refine wpG_nil ?_))
        (refine wpG_keeps hS (fun K hK => ?_))
        go_simp
        refine (objects_any a.x a.v _).mono ?_
        rintro e V ⟨rfl, hv⟩
        rw [HOA.out]
        replace hS := hS.stay hv
        refine hK _ _ hS ?_
        clear hK K hv
        go_wp2_with (first | (refine wpG_hload 42 (ad := ⟨W1.heap.size, 0, none⟩) (v := .agg (clc a.x a.v)) _ rfl rfl (fun w' hw' => TB.loadX (b := W1.heap.size) (t := a) (HA.out w' hw')) hS ?_) | (refine wpG_hload 42 (ad := ⟨W2.heap.size, 0, none⟩) (v := .agg (clc b.x b.v)) _ rfl rfl (fun w' hw' => TB.loadX (b := W2.heap.size) (t := b) (HB.out w' hw')) hS ?_) | (refine wpG_hload 40 (ad := ⟨W1.heap.size, 10, none⟩) (v := .int .u64 ah) _ rfl rfl (fun w' hw' => load_int Tryd.underlying40 (HQ.out w' hw').1) hS ?_) | (refine wpG_hload 40 (ad := ⟨W2.heap.size, 10, none⟩) (v := .int .u64 bh) _ rfl rfl (fun w' hw' => load_int Tryd.underlying40 (HQ.out w' hw').2.1) hS ?_) | (refine wpG_hload 3 (ad := ⟨W1.heap.size, 1, none⟩) (v := .int .i64 ap) _ rfl rfl (fun w' hw' => load_int Tryd.underlying3 (HQ.out w' hw').2.2.1) hS ?_) | (refine wpG_hload 3 (ad := ⟨W2.heap.size, 1, none⟩) (v := .int .i64 bp) _ rfl rfl (fun w' hw' => load_int Tryd.underlying3 (HQ.out w' hw').2.2.2.1) hS ?_) | (refine wpG_skip ?_ ?_; (focus (simp [wantG, undef]; done)); go_simp) | (refine wpG_calc rfl (fun K hK => ?_)) | (refine wpG_skip ?_ ?_; (focus (simp [wantG]; done)); go_simp) | (refine wpG_take ?_ ?_; (focus (simp [wantG]; done))) | (refine wpG_pure (fun K hK => ?_); go_simp; refine hK _ _ ?_; clear hK K) | (refine wpG_deed (by decide) (fun K hK => ?_); go_simp) | (refine wpG_nil ?_))
        (refine wpG_keeps hS (fun K hK => ?_))
        go_simp
        refine (objects_any b.x b.v _).mono ?_
        rintro e V ⟨rfl, hv⟩
        rw [HOB.out]
        replace hS := hS.stay hv
        refine hK _ _ hS ?_
        clear hK K hv
        go_wp2_with (first | (refine wpG_hload 42 (ad := ⟨W1.heap.size, 0, none⟩) (v := .agg (clc a.x a.v)) _ rfl rfl (fun w' hw' => TB.loadX (b := W1.heap.size) (t := a) (HA.out w' hw')) hS ?_) | (refine wpG_hload 42 (ad := ⟨W2.heap.size, 0, none⟩) (v := .agg (clc b.x b.v)) _ rfl rfl (fun w' hw' => TB.loadX (b := W2.heap.size) (t := b) (HB.out w' hw')) hS ?_) | (refine wpG_hload 40 (ad := ⟨W1.heap.size, 10, none⟩) (v := .int .u64 ah) _ rfl rfl (fun w' hw' => load_int Tryd.underlying40 (HQ.out w' hw').1) hS ?_) | (refine wpG_hload 40 (ad := ⟨W2.heap.size, 10, none⟩) (v := .int .u64 bh) _ rfl rfl (fun w' hw' => load_int Tryd.underlying40 (HQ.out w' hw').2.1) hS ?_) | (refine wpG_hload 3 (ad := ⟨W1.heap.size, 1, none⟩) (v := .int .i64 ap) _ rfl rfl (fun w' hw' => load_int Tryd.underlying3 (HQ.out w' hw').2.2.1) hS ?_) | (refine wpG_hload 3 (ad := ⟨W2.heap.size, 1, none⟩) (v := .int .i64 bp) _ rfl rfl (fun w' hw' => load_int Tryd.underlying3 (HQ.out w' hw').2.2.2.1) hS ?_) | (refine wpG_skip ?_ ?_; (focus (simp [wantG, undef]; done)); go_simp) | (refine wpG_calc rfl (fun K hK => ?_)) | (refine wpG_skip ?_ ?_; (focus (simp [wantG]; done)); go_simp) | (refine wpG_take ?_ ?_; (focus (simp [wantG]; done))) | (refine wpG_pure (fun K hK => ?_); go_simp; refine hK _ _ ?_; clear hK K) | (refine wpG_deed (by decide) (fun K hK => ?_); go_simp) | (refine wpG_nil ?_))
        (refine wpG_keeps hS (fun K hK => ?_))
        go_simp
        refine (objects_any a.x a.v _).mono ?_
        rintro e V ⟨rfl, hv⟩
        rw [HOA.out]
        replace hS := hS.stay hv
        refine hK _ _ hS ?_
        clear hK K hv
        go_wp2_with (first | (refine wpG_hload 42 (ad := ⟨W1.heap.size, 0, none⟩) (v := .agg (clc a.x a.v)) _ rfl rfl (fun w' hw' => TB.loadX (b := W1.heap.size) (t := a) (HA.out w' hw')) hS ?_) | (refine wpG_hload 42 (ad := ⟨W2.heap.size, 0, none⟩) (v := .agg (clc b.x b.v)) _ rfl rfl (fun w' hw' => TB.loadX (b := W2.heap.size) (t := b) (HB.out w' hw')) hS ?_) | (refine wpG_hload 40 (ad := ⟨W1.heap.size, 10, none⟩) (v := .int .u64 ah) _ rfl rfl (fun w' hw' => load_int Tryd.underlying40 (HQ.out w' hw').1) hS ?_) | (refine wpG_hload 40 (ad := ⟨W2.heap.size, 10, none⟩) (v := .int .u64 bh) _ rfl rfl (fun w' hw' => load_int Tryd.underlying40 (HQ.out w' hw').2.1) hS ?_) | (refine wpG_hload 3 (ad := ⟨W1.heap.size, 1, none⟩) (v := .int .i64 ap) _ rfl rfl (fun w' hw' => load_int Tryd.underlying3 (HQ.out w' hw').2.2.1) hS ?_) | (refine wpG_hload 3 (ad := ⟨W2.heap.size, 1, none⟩) (v := .int .i64 bp) _ rfl rfl (fun w' hw' => load_int Tryd.underlying3 (HQ.out w' hw').2.2.2.1) hS ?_) | (refine wpG_skip ?_ ?_; (focus (simp [wantG, undef]; done)); go_simp) | (refine wpG_calc rfl (fun K hK => ?_)) | (refine wpG_skip ?_ ?_; (focus (simp [wantG]; done)); go_simp) | (refine wpG_take ?_ ?_; (focus (simp [wantG]; done))) | (refine wpG_pure (fun K hK => ?_); go_simp; refine hK _ _ ?_; clear hK K) | (refine wpG_deed (by decide) (fun K hK => ?_); go_simp) | (refine wpG_nil ?_))
        go_meet
        case rel => exact ⟨by rw [HTV.out], hide hS⟩
    | false =>
      have HOA := hide ho
      clear ho
      cases hp : obK b.x with
      | true =>
        have HOB := hide hp
        clear hp
        have HTV := hide (show T = false by rw [HTT.out, HOA.out, HOB.out]; rfl)
        go_wp2_with (first | (refine wpG_hload 42 (ad := ⟨W1.heap.size, 0, none⟩) (v := .agg (clc a.x a.v)) _ rfl rfl (fun w' hw' => TB.loadX (b := W1.heap.size) (t := a) (HA.out w' hw')) hS ?_) | (refine wpG_hload 42 (ad := ⟨W2.heap.size, 0, none⟩) (v := .agg (clc b.x b.v)) _ rfl rfl (fun w' hw' => TB.loadX (b := W2.heap.size) (t := b) (HB.out w' hw')) hS ?_) | (refine wpG_hload 40 (ad := ⟨W1.heap.size, 10, none⟩) (v := .int .u64 ah) _ rfl rfl (fun w' hw' => load_int Tryd.underlying40 (HQ.out w' hw').1) hS ?_) | (refine wpG_hload 40 (ad := ⟨W2.heap.size, 10, none⟩) (v := .int .u64 bh) _ rfl rfl (fun w' hw' => load_int Tryd.underlying40 (HQ.out w' hw').2.1) hS ?_) | (refine wpG_hload 3 (ad := ⟨W1.heap.size, 1, none⟩) (v := .int .i64 ap) _ rfl rfl (fun w' hw' => load_int Tryd.underlying3 (HQ.out w' hw').2.2.1) hS ?_) | (refine wpG_hload 3 (ad := ⟨W2.heap.size, 1, none⟩) (v := .int .i64 bp) _ rfl rfl (fun w' hw' => load_int Tryd.underlying3 (HQ.out w' hw').2.2.2.1) hS ?_) | (refine wpG_skip ?_ ?_; (focus (simp [wantG, undef]; done)); go_simp) | (refine wpG_calc rfl (fun K hK => ?_)) | (refine wpG_skip ?_ ?_; (focus (simp [wantG]; done)); go_simp) | (refine wpG_take ?_ ?_; (focus (simp [wantG]; done))) | (refine wpG_pure (fun K hK => ?_); go_simp; refine hK _ _ ?_; clear hK K) | (refine wpG_deed (by decide) (fun K hK => ?_); go_simp) | (refine wpG_nil ?_))
        (refine wpG_keeps hS (fun K hK => ?_))
        go_simp
        refine (objects_any a.x a.v _).mono ?_
        rintro e V ⟨rfl, hv⟩
        rw [HOA.out]
        replace hS := hS.stay hv
        refine hK _ _ hS ?_
        clear hK K hv
        go_wp2_with (first | (refine wpG_hload 42 (ad := ⟨W1.heap.size, 0, none⟩) (v := .agg (clc a.x a.v)) _ rfl rfl (fun w' hw' => TB.loadX (b := W1.heap.size) (t := a) (HA.out w' hw')) hS ?_) | (refine wpG_hload 42 (ad := ⟨W2.heap.size, 0, none⟩) (v := .agg (clc b.x b.v)) _ rfl rfl (fun w' hw' => TB.loadX (b := W2.heap.size) (t := b) (HB.out w' hw')) hS ?_) | (refine wpG_hload 40 (ad := ⟨W1.heap.size, 10, none⟩) (v := .int .u64 ah) _ rfl rfl (fun w' hw' => load_int Tryd.underlying40 (HQ.out w' hw').1) hS ?_) | (refine wpG_hload 40 (ad := ⟨W2.heap.size, 10, none⟩) (v := .int .u64 bh) _ rfl rfl (fun w' hw' => load_int Tryd.underlying40 (HQ.out w' hw').2.1) hS ?_) | (refine wpG_hload 3 (ad := ⟨W1.heap.size, 1, none⟩) (v := .int .i64 ap) _ rfl rfl (fun w' hw' => load_int Tryd.underlying3 (HQ.out w' hw').2.2.1) hS ?_) | (refine wpG_hload 3 (ad := ⟨W2.heap.size, 1, none⟩) (v := .int .i64 bp) _ rfl rfl (fun w' hw' => load_int Tryd.underlying3 (HQ.out w' hw').2.2.2.1) hS ?_) | (refine wpG_skip ?_ ?_; (focus (simp [wantG, undef]; done)); go_simp) | (refine wpG_calc rfl (fun K hK => ?_)) | (refine wpG_skip ?_ ?_; (focus (simp [wantG]; done)); go_simp) | (refine wpG_take ?_ ?_; (focus (simp [wantG]; done))) | (refine wpG_pure (fun K hK => ?_); go_simp; refine hK _ _ ?_; clear hK K) | (refine wpG_deed (by decide) (fun K hK => ?_); go_simp) | (refine wpG_nil ?_))
        (refine wpG_keeps hS (fun K hK => ?_))
        go_simp
        refine (objects_any a.x a.v _).mono ?_
        rintro e V ⟨rfl, hv⟩
        rw [HOA.out]
        replace hS := hS.stay hv
        refine hK _ _ hS ?_
        clear hK K hv
        go_wp2_with (first | (refine wpG_hload 42 (ad := ⟨W1.heap.size, 0, none⟩) (v := .agg (clc a.x a.v)) _ rfl rfl (fun w' hw' => TB.loadX (b := W1.heap.size) (t := a) (HA.out w' hw')) hS ?_) | (refine wpG_hload 42 (ad := ⟨W2.heap.size, 0, none⟩) (v := .agg (clc b.x b.v)) _ rfl rfl (fun w' hw' => TB.loadX (b := W2.heap.size) (t := b) (HB.out w' hw')) hS ?_) | (refine wpG_hload 40 (ad := ⟨W1.heap.size, 10, none⟩) (v := .int .u64 ah) _ rfl rfl (fun w' hw' => load_int Tryd.underlying40 (HQ.out w' hw').1) hS ?_) | (refine wpG_hload 40 (ad := ⟨W2.heap.size, 10, none⟩) (v := .int .u64 bh) _ rfl rfl (fun w' hw' => load_int Tryd.underlying40 (HQ.out w' hw').2.1) hS ?_) | (refine wpG_hload 3 (ad := ⟨W1.heap.size, 1, none⟩) (v := .int .i64 ap) _ rfl rfl (fun w' hw' => load_int Tryd.underlying3 (HQ.out w' hw').2.2.1) hS ?_) | (refine wpG_hload 3 (ad := ⟨W2.heap.size, 1, none⟩) (v := .int .i64 bp) _ rfl rfl (fun w' hw' => load_int Tryd.underlying3 (HQ.out w' hw').2.2.2.1) hS ?_) | (refine wpG_skip ?_ ?_; (focus (simp [wantG, undef]; done)); go_simp) | (refine wpG_calc rfl (fun K hK => ?_)) | (refine wpG_skip ?_ ?_; (focus (simp [wantG]; done)); go_simp) | (refine wpG_take ?_ ?_; (focus (simp [wantG]; done))) | (refine wpG_pure (fun K hK => ?_); go_simp; refine hK _ _ ?_; clear hK K) | (refine wpG_deed (by decide) (fun K hK => ?_); go_simp) | (refine wpG_nil ?_))
        (refine wpG_keeps hS (fun K hK => ?_))
        go_simp
        refine (objects_any b.x b.v _).mono ?_
        rintro e V ⟨rfl, hv⟩
        rw [HOB.out]
        replace hS := hS.stay hv
        refine hK _ _ hS ?_
        clear hK K hv
        go_wp2_with (first | (refine wpG_hload 42 (ad := ⟨W1.heap.size, 0, none⟩) (v := .agg (clc a.x a.v)) _ rfl rfl (fun w' hw' => TB.loadX (b := W1.heap.size) (t := a) (HA.out w' hw')) hS ?_) | (refine wpG_hload 42 (ad := ⟨W2.heap.size, 0, none⟩) (v := .agg (clc b.x b.v)) _ rfl rfl (fun w' hw' => TB.loadX (b := W2.heap.size) (t := b) (HB.out w' hw')) hS ?_) | (refine wpG_hload 40 (ad := ⟨W1.heap.size, 10, none⟩) (v := .int .u64 ah) _ rfl rfl (fun w' hw' => load_int Tryd.underlying40 (HQ.out w' hw').1) hS ?_) | (refine wpG_hload 40 (ad := ⟨W2.heap.size, 10, none⟩) (v := .int .u64 bh) _ rfl rfl (fun w' hw' => load_int Tryd.underlying40 (HQ.out w' hw').2.1) hS ?_) | (refine wpG_hload 3 (ad := ⟨W1.heap.size, 1, none⟩) (v := .int .i64 ap) _ rfl rfl (fun w' hw' => load_int Tryd.underlying3 (HQ.out w' hw').2.2.1) hS ?_) | (refine wpG_hload 3 (ad := ⟨W2.heap.size, 1, none⟩) (v := .int .i64 bp) _ rfl rfl (fun w' hw' => load_int Tryd.underlying3 (HQ.out w' hw').2.2.2.1) hS ?_) | (refine wpG_skip ?_ ?_; (focus (simp [wantG, undef]; done)); go_simp) | (refine wpG_calc rfl (fun K hK => ?_)) | (refine wpG_skip ?_ ?_; (focus (simp [wantG]; done)); go_simp) | (refine wpG_take ?_ ?_; (focus (simp [wantG]; done))) | (refine wpG_pure (fun K hK => ?_); go_simp; refine hK _ _ ?_; clear hK K) | (refine wpG_deed (by decide) (fun K hK => ?_); go_simp) | (refine wpG_nil ?_))
        go_meet
        case rel => exact ⟨by rw [HTV.out], hide hS⟩
      | false =>
        have HOB := hide hp
        clear hp
        by_cases e : ap = bp
        · have de : (ap == bp) = true := by rw [e]; simp
          have HTV := hide (show T = true by rw [HTT.out, HOA.out, HOB.out, decide_eq_true (show a.x.p = b.x.p by have := HPP.out; omega)]; rfl)
          clear e
          go_wp2_with (first | (refine wpG_hload 42 (ad := ⟨W1.heap.size, 0, none⟩) (v := .agg (clc a.x a.v)) _ rfl rfl (fun w' hw' => TB.loadX (b := W1.heap.size) (t := a) (HA.out w' hw')) hS ?_) | (refine wpG_hload 42 (ad := ⟨W2.heap.size, 0, none⟩) (v := .agg (clc b.x b.v)) _ rfl rfl (fun w' hw' => TB.loadX (b := W2.heap.size) (t := b) (HB.out w' hw')) hS ?_) | (refine wpG_hload 40 (ad := ⟨W1.heap.size, 10, none⟩) (v := .int .u64 ah) _ rfl rfl (fun w' hw' => load_int Tryd.underlying40 (HQ.out w' hw').1) hS ?_) | (refine wpG_hload 40 (ad := ⟨W2.heap.size, 10, none⟩) (v := .int .u64 bh) _ rfl rfl (fun w' hw' => load_int Tryd.underlying40 (HQ.out w' hw').2.1) hS ?_) | (refine wpG_hload 3 (ad := ⟨W1.heap.size, 1, none⟩) (v := .int .i64 ap) _ rfl rfl (fun w' hw' => load_int Tryd.underlying3 (HQ.out w' hw').2.2.1) hS ?_) | (refine wpG_hload 3 (ad := ⟨W2.heap.size, 1, none⟩) (v := .int .i64 bp) _ rfl rfl (fun w' hw' => load_int Tryd.underlying3 (HQ.out w' hw').2.2.2.1) hS ?_) | (refine wpG_skip ?_ ?_; (focus (simp [wantG, undef]; done)); go_simp) | (refine wpG_calc rfl (fun K hK => ?_)) | (refine wpG_skip ?_ ?_; (focus (simp [wantG]; done)); go_simp) | (refine wpG_take ?_ ?_; (focus (simp [wantG]; done))) | (refine wpG_pure (fun K hK => ?_); go_simp; refine hK _ _ ?_; clear hK K) | (refine wpG_deed (by decide) (fun K hK => ?_); go_simp) | (refine wpG_nil ?_))
          (refine wpG_keeps hS (fun K hK => ?_))
          go_simp
          refine (objects_any a.x a.v _).mono ?_
          rintro e V ⟨rfl, hv⟩
          rw [HOA.out]
          replace hS := hS.stay hv
          refine hK _ _ hS ?_
          clear hK K hv
          go_wp2_with (first | (refine wpG_hload 42 (ad := ⟨W1.heap.size, 0, none⟩) (v := .agg (clc a.x a.v)) _ rfl rfl (fun w' hw' => TB.loadX (b := W1.heap.size) (t := a) (HA.out w' hw')) hS ?_) | (refine wpG_hload 42 (ad := ⟨W2.heap.size, 0, none⟩) (v := .agg (clc b.x b.v)) _ rfl rfl (fun w' hw' => TB.loadX (b := W2.heap.size) (t := b) (HB.out w' hw')) hS ?_) | (refine wpG_hload 40 (ad := ⟨W1.heap.size, 10, none⟩) (v := .int .u64 ah) _ rfl rfl (fun w' hw' => load_int Tryd.underlying40 (HQ.out w' hw').1) hS ?_) | (refine wpG_hload 40 (ad := ⟨W2.heap.size, 10, none⟩) (v := .int .u64 bh) _ rfl rfl (fun w' hw' => load_int Tryd.underlying40 (HQ.out w' hw').2.1) hS ?_) | (refine wpG_hload 3 (ad := ⟨W1.heap.size, 1, none⟩) (v := .int .i64 ap) _ rfl rfl (fun w' hw' => load_int Tryd.underlying3 (HQ.out w' hw').2.2.1) hS ?_) | (refine wpG_hload 3 (ad := ⟨W2.heap.size, 1, none⟩) (v := .int .i64 bp) _ rfl rfl (fun w' hw' => load_int Tryd.underlying3 (HQ.out w' hw').2.2.2.1) hS ?_) | (refine wpG_skip ?_ ?_; (focus (simp [wantG, undef]; done)); go_simp) | (refine wpG_calc rfl (fun K hK => ?_)) | (refine wpG_skip ?_ ?_; (focus (simp [wantG]; done)); go_simp) | (refine wpG_take ?_ ?_; (focus (simp [wantG]; done))) | (refine wpG_pure (fun K hK => ?_); go_simp; refine hK _ _ ?_; clear hK K) | (refine wpG_deed (by decide) (fun K hK => ?_); go_simp) | (refine wpG_nil ?_))
          (refine wpG_keeps hS (fun K hK => ?_))
          go_simp
          refine (objects_any a.x a.v _).mono ?_
          rintro e V ⟨rfl, hv⟩
          rw [HOA.out]
          replace hS := hS.stay hv
          refine hK _ _ hS ?_
          clear hK K hv
          go_wp2_with (first | (refine wpG_hload 42 (ad := ⟨W1.heap.size, 0, none⟩) (v := .agg (clc a.x a.v)) _ rfl rfl (fun w' hw' => TB.loadX (b := W1.heap.size) (t := a) (HA.out w' hw')) hS ?_) | (refine wpG_hload 42 (ad := ⟨W2.heap.size, 0, none⟩) (v := .agg (clc b.x b.v)) _ rfl rfl (fun w' hw' => TB.loadX (b := W2.heap.size) (t := b) (HB.out w' hw')) hS ?_) | (refine wpG_hload 40 (ad := ⟨W1.heap.size, 10, none⟩) (v := .int .u64 ah) _ rfl rfl (fun w' hw' => load_int Tryd.underlying40 (HQ.out w' hw').1) hS ?_) | (refine wpG_hload 40 (ad := ⟨W2.heap.size, 10, none⟩) (v := .int .u64 bh) _ rfl rfl (fun w' hw' => load_int Tryd.underlying40 (HQ.out w' hw').2.1) hS ?_) | (refine wpG_hload 3 (ad := ⟨W1.heap.size, 1, none⟩) (v := .int .i64 ap) _ rfl rfl (fun w' hw' => load_int Tryd.underlying3 (HQ.out w' hw').2.2.1) hS ?_) | (refine wpG_hload 3 (ad := ⟨W2.heap.size, 1, none⟩) (v := .int .i64 bp) _ rfl rfl (fun w' hw' => load_int Tryd.underlying3 (HQ.out w' hw').2.2.2.1) hS ?_) | (refine wpG_skip ?_ ?_; (focus (simp [wantG, undef]; done)); go_simp) | (refine wpG_calc rfl (fun K hK => ?_)) | (refine wpG_skip ?_ ?_; (focus (simp [wantG]; done)); go_simp) | (refine wpG_take ?_ ?_; (focus (simp [wantG]; done))) | (refine wpG_pure (fun K hK => ?_); go_simp; refine hK _ _ ?_; clear hK K) | (refine wpG_deed (by decide) (fun K hK => ?_); go_simp) | (refine wpG_nil ?_))
          (refine wpG_keeps hS (fun K hK => ?_))
          go_simp
          refine (objects_any b.x b.v _).mono ?_
          rintro e V ⟨rfl, hv⟩
          rw [HOB.out]
          replace hS := hS.stay hv
          refine hK _ _ hS ?_
          clear hK K hv
          go_wp2_with (first | (refine wpG_hload 42 (ad := ⟨W1.heap.size, 0, none⟩) (v := .agg (clc a.x a.v)) _ rfl rfl (fun w' hw' => TB.loadX (b := W1.heap.size) (t := a) (HA.out w' hw')) hS ?_) | (refine wpG_hload 42 (ad := ⟨W2.heap.size, 0, none⟩) (v := .agg (clc b.x b.v)) _ rfl rfl (fun w' hw' => TB.loadX (b := W2.heap.size) (t := b) (HB.out w' hw')) hS ?_) | (refine wpG_hload 40 (ad := ⟨W1.heap.size, 10, none⟩) (v := .int .u64 ah) _ rfl rfl (fun w' hw' => load_int Tryd.underlying40 (HQ.out w' hw').1) hS ?_) | (refine wpG_hload 40 (ad := ⟨W2.heap.size, 10, none⟩) (v := .int .u64 bh) _ rfl rfl (fun w' hw' => load_int Tryd.underlying40 (HQ.out w' hw').2.1) hS ?_) | (refine wpG_hload 3 (ad := ⟨W1.heap.size, 1, none⟩) (v := .int .i64 ap) _ rfl rfl (fun w' hw' => load_int Tryd.underlying3 (HQ.out w' hw').2.2.1) hS ?_) | (refine wpG_hload 3 (ad := ⟨W2.heap.size, 1, none⟩) (v := .int .i64 bp) _ rfl rfl (fun w' hw' => load_int Tryd.underlying3 (HQ.out w' hw').2.2.2.1) hS ?_) | (refine wpG_skip ?_ ?_; (focus (simp [wantG, undef]; done)); go_simp) | (refine wpG_calc rfl (fun K hK => ?_)) | (refine wpG_skip ?_ ?_; (focus (simp [wantG]; done)); go_simp) | (refine wpG_take ?_ ?_; (focus (simp [wantG]; done))) | (refine wpG_pure (fun K hK => ?_); go_simp; refine hK _ _ ?_; clear hK K) | (refine wpG_deed (by decide) (fun K hK => ?_); go_simp) | (refine wpG_nil ?_))
          go_meet
          case rel => exact ⟨by rw [HTV.out], hide hS⟩
        · have de : (ap == bp) = false := beq_false_of_ne e
          have HTV := hide (show T = false by rw [HTT.out, HOA.out, HOB.out, decide_eq_false (show ¬ a.x.p = b.x.p by have := HPP.out; omega)]; rfl)
          clear e
          go_wp2_with (first | (refine wpG_hload 42 (ad := ⟨W1.heap.size, 0, none⟩) (v := .agg (clc a.x a.v)) _ rfl rfl (fun w' hw' => TB.loadX (b := W1.heap.size) (t := a) (HA.out w' hw')) hS ?_) | (refine wpG_hload 42 (ad := ⟨W2.heap.size, 0, none⟩) (v := .agg (clc b.x b.v)) _ rfl rfl (fun w' hw' => TB.loadX (b := W2.heap.size) (t := b) (HB.out w' hw')) hS ?_) | (refine wpG_hload 40 (ad := ⟨W1.heap.size, 10, none⟩) (v := .int .u64 ah) _ rfl rfl (fun w' hw' => load_int Tryd.underlying40 (HQ.out w' hw').1) hS ?_) | (refine wpG_hload 40 (ad := ⟨W2.heap.size, 10, none⟩) (v := .int .u64 bh) _ rfl rfl (fun w' hw' => load_int Tryd.underlying40 (HQ.out w' hw').2.1) hS ?_) | (refine wpG_hload 3 (ad := ⟨W1.heap.size, 1, none⟩) (v := .int .i64 ap) _ rfl rfl (fun w' hw' => load_int Tryd.underlying3 (HQ.out w' hw').2.2.1) hS ?_) | (refine wpG_hload 3 (ad := ⟨W2.heap.size, 1, none⟩) (v := .int .i64 bp) _ rfl rfl (fun w' hw' => load_int Tryd.underlying3 (HQ.out w' hw').2.2.2.1) hS ?_) | (refine wpG_skip ?_ ?_; (focus (simp [wantG, undef]; done)); go_simp) | (refine wpG_calc rfl (fun K hK => ?_)) | (refine wpG_skip ?_ ?_; (focus (simp [wantG]; done)); go_simp) | (refine wpG_take ?_ ?_; (focus (simp [wantG]; done))) | (refine wpG_pure (fun K hK => ?_); go_simp; refine hK _ _ ?_; clear hK K) | (refine wpG_deed (by decide) (fun K hK => ?_); go_simp) | (refine wpG_nil ?_))
          (refine wpG_keeps hS (fun K hK => ?_))
          go_simp
          refine (objects_any a.x a.v _).mono ?_
          rintro e V ⟨rfl, hv⟩
          rw [HOA.out]
          replace hS := hS.stay hv
          refine hK _ _ hS ?_
          clear hK K hv
          go_wp2_with (first | (refine wpG_hload 42 (ad := ⟨W1.heap.size, 0, none⟩) (v := .agg (clc a.x a.v)) _ rfl rfl (fun w' hw' => TB.loadX (b := W1.heap.size) (t := a) (HA.out w' hw')) hS ?_) | (refine wpG_hload 42 (ad := ⟨W2.heap.size, 0, none⟩) (v := .agg (clc b.x b.v)) _ rfl rfl (fun w' hw' => TB.loadX (b := W2.heap.size) (t := b) (HB.out w' hw')) hS ?_) | (refine wpG_hload 40 (ad := ⟨W1.heap.size, 10, none⟩) (v := .int .u64 ah) _ rfl rfl (fun w' hw' => load_int Tryd.underlying40 (HQ.out w' hw').1) hS ?_) | (refine wpG_hload 40 (ad := ⟨W2.heap.size, 10, none⟩) (v := .int .u64 bh) _ rfl rfl (fun w' hw' => load_int Tryd.underlying40 (HQ.out w' hw').2.1) hS ?_) | (refine wpG_hload 3 (ad := ⟨W1.heap.size, 1, none⟩) (v := .int .i64 ap) _ rfl rfl (fun w' hw' => load_int Tryd.underlying3 (HQ.out w' hw').2.2.1) hS ?_) | (refine wpG_hload 3 (ad := ⟨W2.heap.size, 1, none⟩) (v := .int .i64 bp) _ rfl rfl (fun w' hw' => load_int Tryd.underlying3 (HQ.out w' hw').2.2.2.1) hS ?_) | (refine wpG_skip ?_ ?_; (focus (simp [wantG, undef]; done)); go_simp) | (refine wpG_calc rfl (fun K hK => ?_)) | (refine wpG_skip ?_ ?_; (focus (simp [wantG]; done)); go_simp) | (refine wpG_take ?_ ?_; (focus (simp [wantG]; done))) | (refine wpG_pure (fun K hK => ?_); go_simp; refine hK _ _ ?_; clear hK K) | (refine wpG_deed (by decide) (fun K hK => ?_); go_simp) | (refine wpG_nil ?_))
          (refine wpG_keeps hS (fun K hK => ?_))
          go_simp
          refine (objects_any a.x a.v _).mono ?_
          rintro e V ⟨rfl, hv⟩
          rw [HOA.out]
          replace hS := hS.stay hv
          refine hK _ _ hS ?_
          clear hK K hv
          go_wp2_with (first | (refine wpG_hload 42 (ad := ⟨W1.heap.size, 0, none⟩) (v := .agg (clc a.x a.v)) _ rfl rfl (fun w' hw' => TB.loadX (b := W1.heap.size) (t := a) (HA.out w' hw')) hS ?_) | (refine wpG_hload 42 (ad := ⟨W2.heap.size, 0, none⟩) (v := .agg (clc b.x b.v)) _ rfl rfl (fun w' hw' => TB.loadX (b := W2.heap.size) (t := b) (HB.out w' hw')) hS ?_) | (refine wpG_hload 40 (ad := ⟨W1.heap.size, 10, none⟩) (v := .int .u64 ah) _ rfl rfl (fun w' hw' => load_int Tryd.underlying40 (HQ.out w' hw').1) hS ?_) | (refine wpG_hload 40 (ad := ⟨W2.heap.size, 10, none⟩) (v := .int .u64 bh) _ rfl rfl (fun w' hw' => load_int Tryd.underlying40 (HQ.out w' hw').2.1) hS ?_) | (refine wpG_hload 3 (ad := ⟨W1.heap.size, 1, none⟩) (v := .int .i64 ap) _ rfl rfl (fun w' hw' => load_int Tryd.underlying3 (HQ.out w' hw').2.2.1) hS ?_) | (refine wpG_hload 3 (ad := ⟨W2.heap.size, 1, none⟩) (v := .int .i64 bp) _ rfl rfl (fun w' hw' => load_int Tryd.underlying3 (HQ.out w' hw').2.2.2.1) hS ?_) | (refine wpG_skip ?_ ?_; (focus (simp [wantG, undef]; done)); go_simp) | (refine wpG_calc rfl (fun K hK => ?_)) | (refine wpG_skip ?_ ?_; (focus (simp [wantG]; done)); go_simp) | (refine wpG_take ?_ ?_; (focus (simp [wantG]; done))) | (refine wpG_pure (fun K hK => ?_); go_simp; refine hK _ _ ?_; clear hK K) | (refine wpG_deed (by decide) (fun K hK => ?_); go_simp) | (refine wpG_nil ?_))
          (refine wpG_keeps hS (fun K hK => ?_))
          go_simp
          refine (objects_any b.x b.v _).mono ?_
          rintro e V ⟨rfl, hv⟩
          rw [HOB.out]
          replace hS := hS.stay hv
          refine hK _ _ hS ?_
          clear hK K hv
          go_wp2_with (first | (refine wpG_hload 42 (ad := ⟨W1.heap.size, 0, none⟩) (v := .agg (clc a.x a.v)) _ rfl rfl (fun w' hw' => TB.loadX (b := W1.heap.size) (t := a) (HA.out w' hw')) hS ?_) | (refine wpG_hload 42 (ad := ⟨W2.heap.size, 0, none⟩) (v := .agg (clc b.x b.v)) _ rfl rfl (fun w' hw' => TB.loadX (b := W2.heap.size) (t := b) (HB.out w' hw')) hS ?_) | (refine wpG_hload 40 (ad := ⟨W1.heap.size, 10, none⟩) (v := .int .u64 ah) _ rfl rfl (fun w' hw' => load_int Tryd.underlying40 (HQ.out w' hw').1) hS ?_) | (refine wpG_hload 40 (ad := ⟨W2.heap.size, 10, none⟩) (v := .int .u64 bh) _ rfl rfl (fun w' hw' => load_int Tryd.underlying40 (HQ.out w' hw').2.1) hS ?_) | (refine wpG_hload 3 (ad := ⟨W1.heap.size, 1, none⟩) (v := .int .i64 ap) _ rfl rfl (fun w' hw' => load_int Tryd.underlying3 (HQ.out w' hw').2.2.1) hS ?_) | (refine wpG_hload 3 (ad := ⟨W2.heap.size, 1, none⟩) (v := .int .i64 bp) _ rfl rfl (fun w' hw' => load_int Tryd.underlying3 (HQ.out w' hw').2.2.2.1) hS ?_) | (refine wpG_skip ?_ ?_; (focus (simp [wantG, undef]; done)); go_simp) | (refine wpG_calc rfl (fun K hK => ?_)) | (refine wpG_skip ?_ ?_; (focus (simp [wantG]; done)); go_simp) | (refine wpG_take ?_ ?_; (focus (simp [wantG]; done))) | (refine wpG_pure (fun K hK => ?_); go_simp; refine hK _ _ ?_; clear hK K) | (refine wpG_deed (by decide) (fun K hK => ?_); go_simp) | (refine wpG_nil ?_))
          go_meet
          case rel => exact ⟨by rw [HTV.out], hide hS⟩
  obtain ⟨rfl, HC⟩ := hcut
  cases T with
  | true =>
    go_wp2_with fail
    refine (HK.out _ HC.out).mono ?_
    rintro e W9 ⟨rfl, hc9⟩
    go_wp2_with fail
    go_ret
    exact ⟨rfl, HC03.out.stay (HC.out.stay hc9)⟩
  | false =>
  have HN1 := hide (show ¬ (obK a.x = true ∧ obK b.x = true ∧ a.x.h = b.x.h) from by rintro ⟨h1, h2, h3⟩; have h4 := HTT.out; rw [h1, h2, decide_eq_true h3] at h4; cases h4)
  have HN2 := hide (show ¬ (obK a.x = false ∧ obK b.x = false ∧ a.x.p = b.x.p) from by rintro ⟨h1, h2, h3⟩; have h4 := HTT.out; rw [h1, h2, decide_eq_true h3] at h4; cases h4)
  have HAP := hide (fun M => apart a.r b.r HNK.out.1 HNK.out.2.2.1 HNK.out.2.1 HNK.out.2.2.2 HN1.out HN2.out M)
  clear HTT HQ HHH HPP HNK HAK HN1 HN2
  go_wp2_with (first | (refine wpList_load26L (b := w.heap.size) (c := c) rfl _ rfl rfl ?_ ?_; (focus exact HCB.out _ HC.out)))
  refine (New_ms (L := []) HMB.out HC.out (fun k hk => by cases hk)).mono ?_
  rintro e V3 ⟨⟨m, rfl, hms⟩, hc3⟩
  have HMS := hide hms
  clear hms hc3
  go_upto_region 10 with (fail)
  go_loopw [110] (fun i wr => ∃ k : Nat, k ≤ l.length ∧ i = .int .i64 k ∧ ∃ M, Hid (MS W3 [] wr m M)) (fun i _ => l.length - (intOf i).toNat)
  case atStart => exact ⟨0, by omega, rfl, _, HMS⟩
  case round =>
    obtain ⟨k, hk, rfl, M, hms⟩ := hrel
    have HMSr := hide hms.out
    clear hms
    have hll : l.length ≤ 30 := by have h := HTM.out; unfold tameB at h; simp at h; exact h.1
    by_cases hkl : k < l.length
    · have HVR := hide (fun W (h : Chg [] wr W) => HVL.out W (HMSr.out.chg.stay h))
      have HTX := hide (fun W (h : Chg [] wr W) => HLO.out W (HMSr.out.chg.stay h) _ (List.getElem_mem hkl))
      obtain ⟨g, off, rfl⟩ := RE.addr (HVR.out wr (Chg.refl _ _)) (show 0 < l.length by omega)
      have HLX := hide (fun W (h : Chg [] wr W) => tw_ldX (HVR.out W h) hkl)
      have HLR := hide (fun W (h : Chg [] wr W) => tw_ldR (HVR.out W h) hkl)
      obtain ⟨t, ht⟩ : ∃ t, t = l[k] := ⟨_, rfl⟩
      rw [← ht] at HTX HLX HLR
      clear ht
      have dl : decide ((k : Int) < (l.length : Int)) = true := decide_eq_true (by omega)
      have dl' : decide (k < l.length) = true := decide_eq_true hkl
      have i0 : (0 : Int) ≤ (k : Int) := by omega
      have i1 : (k : Int) < (l.length : Int) := by omega
      have hwi : IntKind.i64.wrap ((k : Int) + 1) = (k : Int) + 1 := by rw [IntKind.wrap_i64]; omega
      have HKL := hide hkl
      clear hk hkl hll
      go_upto_region 12 with (fail)
      refine wp_region_t [0,0,0,0,0,5,0,0,0,0,5,3] [none, none, none, none, none, none, none, none, none, none, none, none] (fun W => Chg [] wr W) (by kernel_rfl) (by kernel_rfl) (by kernel_rfl) ?_
      have hS : Chg [] wr wr.drew := (Chg.refl [] wr).drew
      generalize wr.drew = W0 at hS ⊢
      go_wp2_with (first | (refine wpG_hload 42 _ rfl rfl (fun w' hw' => HLX.out w' hw') hS ?_) | (refine wpG_hload 45 _ rfl rfl (fun w' hw' => HLR.out w' hw') hS ?_) | (refine wpG_deed (by decide) (fun K hK => ?_); go_simp; refine (Step_ms (HMSr.out.stay hS) HF.out (HTX.out W0 hS).x (HTX.out W0 hS).v (HTX.out W0 hS).r (HTX.out W0 hS).u).mono ?_; rintro e W5 ⟨rfl, hms, hkp⟩; refine hK _ _ ?_; clear hK K) | (refine wpG_calc rfl (fun K hK => ?_)) | (refine wpG_skip ?_ ?_; (focus (simp [wantG]; done)); go_simp) | (refine wpG_take ?_ ?_; (focus (simp [wantG]; done))) | (refine wpG_pure (fun K hK => ?_); go_simp; refine hK _ _ ?_; clear hK K) | (refine wpG_deed (by decide) (fun K hK => ?_); go_simp) | (refine wpG_nil ?_))
      have HMS7 := hide hms
      clear hms hkp
      go_roundw
      case rel => exact ⟨k + 1, by have := HKL.out; omega, by go_num, _, HMS7⟩
      case measure => have := HKL.out; simp [intOf]; omega
    · obtain rfl : k = l.length := by omega
      clear hk hkl hll
      go_wp2_with fail
      refine (M2.copy HMSr.out).mono ?_
      rintro e V4 ⟨n, rfl, h2⟩
      have H0 := hide h2
      clear h2
      go_upto_region 15 with (fail)
      refine wp_region_t [0,0,5,0,5,6,0,0,5,0,5,6,0,0] [none, none, none, none, none, none, none, none, none, none, none, none, none, none] (fun W => Chg [] W3 W) (by kernel_rfl) (by kernel_rfl) (by kernel_rfl) ?_
      have hS0 : Chg [] V4 V4.drew := (Chg.refl [] V4).drew
      have HD := hide (H0.out.stay hS0)
      have hS : Chg [] W3 V4.drew := HD.out.chg
      clear hS0
      generalize V4.drew = D0 at HD hS ⊢
      go_wp2_with (first | (refine wpG_hload 42 _ rfl rfl (fun w' hw' => TB.loadX (HA.out w' hw')) hS ?_) | (refine wpG_hload 45 _ rfl rfl (fun w' hw' => TB.loadR (HA.out w' hw')) hS ?_) | (refine wpG_hload 42 _ rfl rfl (fun w' hw' => TB.loadX (HB.out w' hw')) hS ?_) | (refine wpG_hload 45 _ rfl rfl (fun w' hw' => TB.loadR (HB.out w' hw')) hS ?_) | (refine wpG_calc rfl (fun K hK => ?_)) | (refine wpG_skip ?_ ?_; (focus (simp [wantG]; done)); go_simp) | (refine wpG_take ?_ ?_; (focus (simp [wantG]; done))) | (refine wpG_pure (fun K hK => ?_); go_simp; refine hK _ _ ?_; clear hK K) | (refine wpG_deed (by decide) (fun K hK => ?_); go_simp) | (refine wpG_nil ?_))
      (refine wpG_keeps hS (fun K hK => ?_))
      go_simp
      refine (M2.step HD.out HF.out (HAO.out D0 hS).x (HAO.out D0 hS).v (HAO.out D0 hS).r (HAO.out D0 hS).u).mono ?_
      rintro e Y1 ⟨rfl, h2⟩
      have HS1 := hide h2
      replace hS : Chg [] W3 Y1 := h2.chg
      clear h2 HD
      refine hK _ _ hS ?_
      clear hK K
      go_wp2_with (first | (refine wpG_hload 42 _ rfl rfl (fun w' hw' => TB.loadX (HA.out w' hw')) hS ?_) | (refine wpG_hload 45 _ rfl rfl (fun w' hw' => TB.loadR (HA.out w' hw')) hS ?_) | (refine wpG_hload 42 _ rfl rfl (fun w' hw' => TB.loadX (HB.out w' hw')) hS ?_) | (refine wpG_hload 45 _ rfl rfl (fun w' hw' => TB.loadR (HB.out w' hw')) hS ?_) | (refine wpG_calc rfl (fun K hK => ?_)) | (refine wpG_skip ?_ ?_; (focus (simp [wantG]; done)); go_simp) | (refine wpG_take ?_ ?_; (focus (simp [wantG]; done))) | (refine wpG_pure (fun K hK => ?_); go_simp; refine hK _ _ ?_; clear hK K) | (refine wpG_deed (by decide) (fun K hK => ?_); go_simp) | (refine wpG_nil ?_))
      (refine wpG_keeps hS (fun K hK => ?_))
      go_simp
      refine (M2.step HS1.out HF.out (HBO.out Y1 hS).x (HBO.out Y1 hS).v (HBO.out Y1 hS).r (HBO.out Y1 hS).u).mono ?_
      rintro e Y2 ⟨rfl, h2⟩
      have HS2 := hide h2
      replace hS : Chg [] W3 Y2 := h2.chg
      clear h2 HS1
      refine hK _ _ hS ?_
      clear hK K
      go_wp2_with (first | (refine wpG_hload 42 _ rfl rfl (fun w' hw' => TB.loadX (HA.out w' hw')) hS ?_) | (refine wpG_hload 45 _ rfl rfl (fun w' hw' => TB.loadR (HA.out w' hw')) hS ?_) | (refine wpG_hload 42 _ rfl rfl (fun w' hw' => TB.loadX (HB.out w' hw')) hS ?_) | (refine wpG_hload 45 _ rfl rfl (fun w' hw' => TB.loadR (HB.out w' hw')) hS ?_) | (refine wpG_calc rfl (fun K hK => ?_)) | (refine wpG_skip ?_ ?_; (focus (simp [wantG]; done)); go_simp) | (refine wpG_take ?_ ?_; (focus (simp [wantG]; done))) | (refine wpG_pure (fun K hK => ?_); go_simp; refine hK _ _ ?_; clear hK K) | (refine wpG_deed (by decide) (fun K hK => ?_); go_simp) | (refine wpG_nil ?_))
      clear hS
      go_upto_region 16 with (fail)
      refine wp_region_t [0,0,5,0,5,6,0,0,5,0,5,6,0,0] [none, none, none, none, none, none, none, none, none, none, none, none, none, none] (fun W => Chg [] W3 W) (by kernel_rfl) (by kernel_rfl) (by kernel_rfl) ?_
      have hS0 : Chg [] Y2 Y2.drew := (Chg.refl [] Y2).drew
      have HD := hide (HS2.out.stay hS0)
      have hS : Chg [] W3 Y2.drew := HD.out.chg
      clear hS0
      generalize Y2.drew = D0 at HD hS ⊢
      go_wp2_with (first | (refine wpG_hload 42 _ rfl rfl (fun w' hw' => TB.loadX (HB.out w' hw')) hS ?_) | (refine wpG_hload 45 _ rfl rfl (fun w' hw' => TB.loadR (HB.out w' hw')) hS ?_) | (refine wpG_hload 42 _ rfl rfl (fun w' hw' => TB.loadX (HA.out w' hw')) hS ?_) | (refine wpG_hload 45 _ rfl rfl (fun w' hw' => TB.loadR (HA.out w' hw')) hS ?_) | (refine wpG_calc rfl (fun K hK => ?_)) | (refine wpG_skip ?_ ?_; (focus (simp [wantG]; done)); go_simp) | (refine wpG_take ?_ ?_; (focus (simp [wantG]; done))) | (refine wpG_pure (fun K hK => ?_); go_simp; refine hK _ _ ?_; clear hK K) | (refine wpG_deed (by decide) (fun K hK => ?_); go_simp) | (refine wpG_nil ?_))
      (refine wpG_keeps hS (fun K hK => ?_))
      go_simp
      refine (M2.step HD.out.swap HF.out (HBO.out D0 hS).x (HBO.out D0 hS).v (HBO.out D0 hS).r (HBO.out D0 hS).u).mono ?_
      rintro e Y3 ⟨rfl, h2⟩
      have HS3 := hide h2.swap
      replace hS : Chg [] W3 Y3 := h2.chg
      clear h2 HD
      refine hK _ _ hS ?_
      clear hK K
      go_wp2_with (first | (refine wpG_hload 42 _ rfl rfl (fun w' hw' => TB.loadX (HB.out w' hw')) hS ?_) | (refine wpG_hload 45 _ rfl rfl (fun w' hw' => TB.loadR (HB.out w' hw')) hS ?_) | (refine wpG_hload 42 _ rfl rfl (fun w' hw' => TB.loadX (HA.out w' hw')) hS ?_) | (refine wpG_hload 45 _ rfl rfl (fun w' hw' => TB.loadR (HA.out w' hw')) hS ?_) | (refine wpG_calc rfl (fun K hK => ?_)) | (refine wpG_skip ?_ ?_; (focus (simp [wantG]; done)); go_simp) | (refine wpG_take ?_ ?_; (focus (simp [wantG]; done))) | (refine wpG_pure (fun K hK => ?_); go_simp; refine hK _ _ ?_; clear hK K) | (refine wpG_deed (by decide) (fun K hK => ?_); go_simp) | (refine wpG_nil ?_))
      (refine wpG_keeps hS (fun K hK => ?_))
      go_simp
      refine (M2.step HS3.out.swap HF.out (HAO.out Y3 hS).x (HAO.out Y3 hS).v (HAO.out Y3 hS).r (HAO.out Y3 hS).u).mono ?_
      rintro e Y4 ⟨rfl, h2⟩
      have HS4 := hide h2.swap
      replace hS : Chg [] W3 Y4 := h2.chg
      clear h2 HS3
      refine hK _ _ hS ?_
      clear hK K
      go_upto_region 17 with (first | (refine wpG_hload 42 _ rfl rfl (fun w' hw' => TB.loadX (HB.out w' hw')) hS ?_) | (refine wpG_hload 45 _ rfl rfl (fun w' hw' => TB.loadR (HB.out w' hw')) hS ?_) | (refine wpG_hload 42 _ rfl rfl (fun w' hw' => TB.loadX (HA.out w' hw')) hS ?_) | (refine wpG_hload 45 _ rfl rfl (fun w' hw' => TB.loadR (HA.out w' hw')) hS ?_) | (refine wpG_calc rfl (fun K hK => ?_)) | (refine wpG_skip ?_ ?_; (focus (simp [wantG]; done)); go_simp) | (refine wpG_take ?_ ?_; (focus (simp [wantG]; done))) | (refine wpG_pure (fun K hK => ?_); go_simp; refine hK _ _ ?_; clear hK K) | (refine wpG_deed (by decide) (fun K hK => ?_); go_simp) | (refine wpG_nil ?_))
      clear hS
      have HAPM := HAP.out M
      have HSM := hide (show M2 W3 Y4 m n (stepM (stepM M b.x b.r) a.x a.r) (stepM (stepM M b.x b.r) a.x a.r) by have := HS4.out; rw [HAPM.2.2] at this; exact this)
      have g1 : stepB (stepM M a.x a.r) b.x b.r = stepB M b.x b.r := HAPM.1
      have g2 : stepB (stepM M b.x b.r) a.x a.r = stepB M a.x a.r := HAPM.2.1
      rw [g1, g2]
      generalize stepB M a.x a.r = s1
      generalize stepB M b.x b.r = s2
      have HC := hide HSM.out.chg
      clear HAPM g1 g2 HS4
      cases s1 <;> cases s2 <;> (go_wp2_with fail; refine HSM.out.same.mono ?_; rintro e W8 ⟨rfl, hc8⟩; have HC8 := hide (HC.out.stay hc8); clear hc8; go_wp2_with fail; refine (HK.out _ HC8.out).mono ?_; rintro e W9 ⟨rfl, hc9⟩; go_wp2_with fail; go_ret; exact ⟨rfl, HC03.out.stay (HC8.out.stay hc9)⟩)
end Go.Proofs.YtfoleblcaloeoaaDoor

/- A config that a law is handed. -/
namespace Go.Proofs.YtfoleblcaloeoaaDoor
open Go Go.RowKit Go.ChangeShapes Go.WideShapes Go.ChangeAt Go.Deep

theorem Tryd.own : ownKnob Tryd.prog.godebug = none := by kernel_rfl
section
variable {H : Type} {enc : TypeId × Value → H} {w : World} {base : Nat} {spare : Nat → Bool} {held : Bool}
theorem one_of {L : List Value} {i : Nat} {v : Value} (h : (L.drop i).take 1 = [v]) : L[i]? = some v := by
  have : ((L.drop i).take 1)[0]? = some v := by rw [h]; rfl
  rw [List.getElem?_take_of_lt (by omega), List.getElem?_drop] at this
  simpa using this
theorem one_int {fuel : Nat} {L : List Value} {i : Nat} {x : DataW H × List MemPlace} (h : DataW.trod enc Tryd.prog w base spare held fuel 3 ((L.drop i).take 1) = some x) : ∃ z, L[i]? = some (.int .i64 z) := by
  obtain ⟨z, e, _⟩ := DataW.trod_int Tryd.underlying3 h
  exact ⟨z, one_of e⟩
theorem arr_int {fuel t n : Nat} {L : List Value} {x : DataW H × List MemPlace} (hu : Tryd.prog.underlying t = some (.array n 3)) (h : DataW.trod enc Tryd.prog w base spare held fuel t L = some x) : ∀ i, i < n → ∃ z, L[i]? = some (.int .i64 z) := by
  obtain ⟨xs, m, _, _, _, hl, hel⟩ := DataW.trod_array hu h
  intro i hi
  have h1 := hel i hi
  rw [cells3, Nat.mul_one, List.getElem?_eq_getElem (by rw [hl]; exact hi)] at h1
  exact one_int h1
theorem sub_at {L : List Value} {o n i : Nat} {v : Value} (h : ((L.drop o).take n)[i]? = some v) : L[o + i]? = some v := by
  have hi : i < n := by
    have := (List.getElem?_eq_some_iff.1 h).1
    rw [List.length_take] at this
    omega
  rw [List.getElem?_take_of_lt hi, List.getElem?_drop] at h
  exact h
theorem cells22 : Tryd.prog.cellsOf 22 = 16 := by kernel_rfl
theorem cells24 : Tryd.prog.cellsOf 24 = 64 := by kernel_rfl
theorem cells26 : Tryd.prog.cellsOf 26 = 94 := by kernel_rfl
theorem open_cfg {cs : Array Value} {d : DataW H} {p : List MemPlace} (hs : cs.size = 94) (h : DataW.Trod enc Tryd.prog w base spare held 26 (.agg cs) d p) : ∃ c : Cf, cs = cg c := by
  obtain ⟨fuel, hf⟩ := h
  have hcs : (Value.agg cs).cells.toList = cs.toList := rfl
  rw [hcs] at hf
  obtain ⟨n, hp⟩ := trod_parts Tryd.underlying26 hf
  have each : ∀ i, i < 94 → ∃ z, cs.toList[i]? = some (.int .i64 z) := by
    intro i hi
    by_cases i0 : i = 0
    · subst i0
      obtain ⟨y, hy⟩ := trod_part hp 0 rfl 3 0 1 rfl rfl cells3
      exact one_int hy
    by_cases i1 : i = 1
    · subst i1
      obtain ⟨y, hy⟩ := trod_part hp 1 rfl 3 1 1 rfl rfl cells3
      exact one_int hy
    by_cases i2 : i < 18
    · obtain ⟨y, hy⟩ := trod_part hp 2 rfl 22 2 16 rfl rfl cells22
      obtain ⟨z, hz⟩ := arr_int Tryd.underlying22 hy (i - 2) (by omega)
      have := sub_at hz
      rw [show 2 + (i - 2) = i by omega] at this
      exact ⟨z, this⟩
    by_cases i3 : i < 26
    · obtain ⟨y, hy⟩ := trod_part hp 3 rfl 23 18 8 rfl rfl cells23
      obtain ⟨z, hz⟩ := arr_int Tryd.underlying23 hy (i - 18) (by omega)
      have := sub_at hz
      rw [show 18 + (i - 18) = i by omega] at this
      exact ⟨z, this⟩
    by_cases i4 : i < 90
    · obtain ⟨y, hy⟩ := trod_part hp 4 rfl 24 26 64 rfl rfl cells24
      obtain ⟨xs, m, _, _, _, hl, hel⟩ := DataW.trod_array Tryd.underlying24 hy
      have h1 := hel ((i - 26) / 8) (by omega)
      rw [cells23, List.getElem?_eq_getElem (by rw [hl]; omega)] at h1
      obtain ⟨z, hz⟩ := arr_int Tryd.underlying23 h1 ((i - 26) % 8) (by omega)
      have := sub_at (sub_at hz)
      rw [show 26 + ((i - 26) / 8 * 8 + (i - 26) % 8) = i by omega] at this
      exact ⟨z, this⟩
    rcases (by omega : i = 90 ∨ i = 91 ∨ i = 92 ∨ i = 93) with rfl | rfl | rfl | rfl
    · obtain ⟨y, hy⟩ := trod_part hp 5 rfl 3 90 1 rfl rfl cells3
      exact one_int hy
    · obtain ⟨y, hy⟩ := trod_part hp 6 rfl 3 91 1 rfl rfl cells3
      exact one_int hy
    · obtain ⟨y, hy⟩ := trod_part hp 7 rfl 3 92 1 rfl rfl cells3
      exact one_int hy
    · obtain ⟨y, hy⟩ := trod_part hp 8 rfl 3 93 1 rfl rfl cells3
      exact one_int hy
  classical
  refine ⟨fun i => if h : i < 94 then (each i h).choose else 0, cg_of hs fun i hi => ?_⟩
  simp only [dif_pos hi]
  exact (Array.getElem?_toList (xs := cs)).symm.trans (each i hi).choose_spec
end
theorem trodAll_single {H : Type} {enc : TypeId × Value → H} {P : Program} {w : World} {base : Nat} {spare : Nat → Bool} {held : Bool} {t0 : TypeId} {args : Array Value} {ds : List (DataW H)} {ps : List MemPlace} (h : DataW.TrodAll enc P w base spare held [t0] args.toList ds ps) :
    ∃ v0 d0 p0, args = #[v0] ∧ ds = [d0] ∧ ps = p0 ∧ DataW.Trod enc P w base spare held t0 v0 d0 p0 := by
  obtain ⟨v0, vs0, d0, ds0, p0, q0, hargs, rfl, rfl, h0, k0⟩ := trodAll_cons h
  obtain ⟨rfl, rfl, rfl⟩ := trodAll_nil k0
  exact ⟨v0, d0, p0, by cases args; simp_all, rfl, by simp, h0⟩
theorem trodAll_two {H : Type} {enc : TypeId × Value → H} {P : Program} {w : World} {base : Nat} {spare : Nat → Bool} {held : Bool} {t0 t1 : TypeId} {args : Array Value} {ds : List (DataW H)} {ps : List MemPlace} (h : DataW.TrodAll enc P w base spare held [t0, t1] args.toList ds ps) :
    ∃ v0 v1 d0 d1 p0 p1, args = #[v0, v1] ∧ ds = [d0, d1] ∧ ps = p0 ++ p1 ∧ DataW.Trod enc P w base spare held t0 v0 d0 p0 ∧ DataW.Trod enc P w base spare held t1 v1 d1 p1 := by
  obtain ⟨v0, vs0, d0, ds0, p0, q0, hargs, rfl, rfl, h0, k0⟩ := trodAll_cons h
  obtain ⟨v1, vs1, d1, ds1, p1, q1, rfl, rfl, rfl, h1, k1⟩ := trodAll_cons k0
  obtain ⟨rfl, rfl, rfl⟩ := trodAll_nil k1
  exact ⟨v0, v1, d0, d1, p0, p1, by cases args; simp_all, rfl, by simp, h0, h1⟩
theorem trodAll_three {H : Type} {enc : TypeId × Value → H} {P : Program} {w : World} {base : Nat} {spare : Nat → Bool} {held : Bool} {t0 t1 t2 : TypeId} {args : Array Value} {ds : List (DataW H)} {ps : List MemPlace} (h : DataW.TrodAll enc P w base spare held [t0, t1, t2] args.toList ds ps) :
    ∃ v0 v1 v2 d0 d1 d2 p0 p1 p2, args = #[v0, v1, v2] ∧ ds = [d0, d1, d2] ∧ ps = p0 ++ p1 ++ p2 ∧ DataW.Trod enc P w base spare held t0 v0 d0 p0 ∧ DataW.Trod enc P w base spare held t1 v1 d1 p1 ∧ DataW.Trod enc P w base spare held t2 v2 d2 p2 := by
  obtain ⟨v0, vs0, d0, ds0, p0, q0, hargs, rfl, rfl, h0, k0⟩ := trodAll_cons h
  obtain ⟨v1, vs1, d1, ds1, p1, q1, rfl, rfl, rfl, h1, k1⟩ := trodAll_cons k0
  obtain ⟨v2, vs2, d2, ds2, p2, q2, rfl, rfl, rfl, h2, k2⟩ := trodAll_cons k1
  obtain ⟨rfl, rfl, rfl⟩ := trodAll_nil k2
  exact ⟨v0, v1, v2, d0, d1, d2, p0, p1, p2, by cases args; simp_all, rfl, by simp, h0, h1, h2⟩
end Go.Proofs.YtfoleblcaloeoaaDoor

/- What a law is handed: bytes, a call, a result; the listed variable. -/
namespace Go.Proofs.YtfoleblcaloeoaaDoor
open Go Go.RowKit Go.ChangeShapes Go.WideShapes Go.ChangeAt Go.Deep

theorem cells5 : Tryd.prog.cellsOf 5 = 1 := by kernel_rfl
theorem cells9 : Tryd.prog.cellsOf 9 = 1 := by kernel_rfl
theorem cells36 : Tryd.prog.cellsOf 36 = 1 := by kernel_rfl
theorem cells37 : Tryd.prog.cellsOf 37 = 1 := by kernel_rfl
theorem cells39 : Tryd.prog.cellsOf 39 = 2 := by kernel_rfl
theorem cells40 : Tryd.prog.cellsOf 40 = 1 := by kernel_rfl
theorem cells27 : Tryd.prog.cellsOf 27 = 1 := by kernel_rfl
theorem cells42 : Tryd.prog.cellsOf 42 = 12 := by kernel_rfl
theorem cells33 : Tryd.prog.cellsOf 33 = 1 := by kernel_rfl
theorem cells45 : Tryd.prog.cellsOf 45 = 3 := by kernel_rfl
section
variable {H : Type} {enc : TypeId × Value → H} {w : World} {base : Nat} {spare : Nat → Bool} {held : Bool}
theorem open_bytes {fuel : Nat} {v : Value} {x : DataW H × List MemPlace}
    (h : DataW.trod enc Tryd.prog w base spare held fuel 27 [v] = some x) : ∃ l : List Nat, RB w v l ∧ (∀ b ∈ l, b < 256) ∧ (l.length : Int) ≤ 9223372036854775807 := by
  rcases open_ints Tryd.underlying27 Tryd.underlying5 cells5 h with ⟨hcs, _⟩ | ⟨a, len, cap, zs, hcs, _, hlc, hcm, hlen, _, hcell, hwf⟩
  · injection hcs with e
    subst e
    exact ⟨[], Rd.nil w 1 0 none, by simp, by simp⟩
  · injection hcs with e
    subst e
    have hzl : len ≤ zs.length := by rw [hlen]; split <;> omega
    have hl : ((zs.take len).map Int.toNat).length = len := by simp; omega
    have hb : ∀ i, (hi : i < zs.length) → 0 ≤ zs[i] ∧ zs[i] ≤ 255 := fun i hi => bounds_u8 (hwf _ (List.getElem_mem hi))
    refine ⟨(zs.take len).map Int.toNat, ?_, fun b hbm => ?_, by rw [hl]; unfold maxLen at hcm; omega⟩
    · refine ⟨by rw [fc_length ucl_len], some a, cap, by rw [hl], by rw [hl]; exact hlc, fun hpos => ?_⟩
      rw [hl] at hpos
      obtain ⟨g, off, rfl⟩ := plain_addr (by have := hcell 0 (by omega); exact this)
      refine ⟨g, off, rfl, fun j u hu => ?_⟩
      have hj : j < len := by
        have := (List.getElem?_eq_some_iff.1 hu).1
        rw [fc_length ucl_len, hl] at this
        omega
      have hg := fc_get ucl_len ((zs.take len).map Int.toNat) j 0 (by rw [hl]; exact hj) (by omega)
      rw [Nat.mul_one, Nat.add_zero, hu] at hg
      have hc := hcell j (by omega)
      rw [Addr.add_lit] at hc
      rw [hc, hg]
      have hz := hb j (by omega)
      simp [ucl, List.getD, List.getElem?_eq_getElem (show j < zs.length by omega), Int.toNat_of_nonneg hz.1]
    · obtain ⟨z, hz, rfl⟩ := List.mem_map.1 hbm
      have := bounds_u8 (hwf z (List.mem_of_mem_take hz))
      omega
theorem one_u8 {fuel : Nat} {t : TypeId} (ht : Tryd.prog.underlying t = some (.int .u8)) {L : List Value} {i : Nat} {x : DataW H × List MemPlace} (h : DataW.trod enc Tryd.prog w base spare held fuel t ((L.drop i).take 1) = some x) : ∃ z : Nat, L[i]? = some (.int .u8 z) ∧ z < 256 := by
  obtain ⟨z, e, _, hw⟩ := DataW.trod_int ht h
  have := bounds_u8 hw
  exact ⟨z.toNat, by rw [one_of e, Int.toNat_of_nonneg this.1], by omega⟩
theorem one_u64 {fuel : Nat} {t : TypeId} (ht : Tryd.prog.underlying t = some (.int .u64)) {L : List Value} {i : Nat} {x : DataW H × List MemPlace} (h : DataW.trod enc Tryd.prog w base spare held fuel t ((L.drop i).take 1) = some x) : ∃ z : Nat, L[i]? = some (.int .u64 z) ∧ z < 18446744073709551616 := by
  obtain ⟨z, e, _, hw⟩ := DataW.trod_int ht h
  have := bounds_u64 hw
  exact ⟨z.toNat, by rw [one_of e, Int.toNat_of_nonneg this.1], by omega⟩
theorem one_i64 {fuel : Nat} {t : TypeId} (ht : Tryd.prog.underlying t = some (.int .i64)) {L : List Value} {i : Nat} {x : DataW H × List MemPlace} (h : DataW.trod enc Tryd.prog w base spare held fuel t ((L.drop i).take 1) = some x) : ∃ z : Int, L[i]? = some (.int .i64 z) ∧ -9223372036854775808 ≤ z ∧ z ≤ 9223372036854775807 := by
  obtain ⟨z, e, _, hw⟩ := DataW.trod_int ht h
  exact ⟨z, one_of e, bounds_i64 hw⟩
theorem one_bytes {fuel : Nat} {L : List Value} {i : Nat} {x : DataW H × List MemPlace} (hi : i < L.length) (h : DataW.trod enc Tryd.prog w base spare held fuel 27 ((L.drop i).take 1) = some x) : ∃ (v : Value) (l : List Nat), L[i]? = some v ∧ RB w v l ∧ (∀ b ∈ l, b < 256) ∧ (l.length : Int) ≤ 9223372036854775807 := by
  have e : (L.drop i).take 1 = [L[i]] := by rw [List.drop_eq_getElem_cons hi]; rfl
  rw [e] at h
  obtain ⟨l, h1, h2, h3⟩ := open_bytes h
  exact ⟨L[i], l, List.getElem?_eq_getElem hi, h1, h2, h3⟩
theorem open_call {cs : Array Value} {d : DataW H} {p : List MemPlace} (hs : cs.size = 12) (h : DataW.Trod enc Tryd.prog w base spare held 42 (.agg cs) d p) : ∃ (x : Cl) (v : Value), cs = clc x v ∧ x.Ok ∧ RB w v x.l ∧ (x.l.length : Int) ≤ 9223372036854775807 := by
  obtain ⟨fuel, hf⟩ := h
  have hcs : (Value.agg cs).cells.toList = cs.toList := rfl
  rw [hcs] at hf
  obtain ⟨n, hp⟩ := trod_parts Tryd.underlying42 hf
  obtain ⟨y0, hy0⟩ := trod_part hp 0 rfl 36 0 1 rfl rfl cells36
  obtain ⟨y1, hy1⟩ := trod_part hp 1 rfl 3 1 1 rfl rfl cells3
  obtain ⟨y2, hy2⟩ := trod_part hp 2 rfl 3 2 1 rfl rfl cells3
  obtain ⟨y3, hy3⟩ := trod_part hp 3 rfl 3 3 1 rfl rfl cells3
  obtain ⟨y4, hy4⟩ := trod_part hp 4 rfl 3 4 1 rfl rfl cells3
  obtain ⟨y5, hy5⟩ := trod_part hp 5 rfl 3 5 1 rfl rfl cells3
  obtain ⟨y6, hy6⟩ := trod_part hp 6 rfl 3 6 1 rfl rfl cells3
  obtain ⟨y7, hy7⟩ := trod_part hp 7 rfl 5 7 1 rfl rfl cells5
  obtain ⟨y8, hy8⟩ := trod_part hp 8 rfl 39 8 2 rfl rfl cells39
  obtain ⟨y9, hy9⟩ := trod_part hp 9 rfl 40 10 1 rfl rfl cells40
  obtain ⟨y10, hy10⟩ := trod_part hp 10 rfl 27 11 1 rfl rfl cells27
  obtain ⟨k, e0, hk⟩ := one_u8 Tryd.underlying36 hy0
  obtain ⟨p, e1, hp'⟩ := one_i64 Tryd.underlying3 hy1
  obtain ⟨nn, e2, hn⟩ := one_i64 Tryd.underlying3 hy2
  obtain ⟨g, e3, hg⟩ := one_i64 Tryd.underlying3 hy3
  obtain ⟨c, e4, hc⟩ := one_i64 Tryd.underlying3 hy4
  obtain ⟨a, e5, ha⟩ := one_i64 Tryd.underlying3 hy5
  obtain ⟨s, e6, hs'⟩ := one_i64 Tryd.underlying3 hy6
  obtain ⟨r, e7, hr⟩ := one_u8 Tryd.underlying5 hy7
  obtain ⟨n', hq⟩ := trod_parts Tryd.underlying39 hy8
  obtain ⟨z0, hz0⟩ := trod_part hq 0 rfl 37 0 1 rfl rfl cells37
  obtain ⟨z1, hz1⟩ := trod_part hq 1 rfl 5 1 1 rfl rfl cells5
  obtain ⟨ok, e8, hok⟩ := one_u8 Tryd.underlying37 hz0
  obtain ⟨om, e9, hom⟩ := one_u8 Tryd.underlying5 hz1
  obtain ⟨hh, e10, hhh⟩ := one_u64 Tryd.underlying40 hy9
  obtain ⟨v, l, e11, hv, hl, hlen⟩ := one_bytes (by simp [hs]) hy10
  refine ⟨⟨k, p, nn, g, c, a, s, r, ok, om, hh, l⟩, v, ?_, ⟨hk, hp', hn, hg, hc, ha, hs', hr, hok, hom, hhh, hl⟩, hv, hlen⟩
  apply Array.ext_getElem?
  intro i
  have ee : ∀ i, cs[i]? = cs.toList[i]? := fun i => (Array.getElem?_toList (xs := cs)).symm
  rw [ee]
  match i with
  | 0 => exact e0
  | 1 => exact e1
  | 2 => exact e2
  | 3 => exact e3
  | 4 => exact e4
  | 5 => exact e5
  | 6 => exact e6
  | 7 => exact e7
  | 8 => exact sub_at e8
  | 9 => exact sub_at e9
  | 10 => exact e10
  | 11 => exact e11
  | i + 12 => rw [List.getElem?_eq_none (by simp [hs])]; rfl
theorem open_res {cs : Array Value} {d : DataW H} {p : List MemPlace} (hs : cs.size = 3) (h : DataW.Trod enc Tryd.prog w base spare held 45 (.agg cs) d p) : ∃ (x : Rs) (v : Value), cs = rsc x v ∧ x.Ok ∧ RB w v x.l ∧ (x.l.length : Int) ≤ 9223372036854775807 := by
  obtain ⟨fuel, hf⟩ := h
  have hcs : (Value.agg cs).cells.toList = cs.toList := rfl
  rw [hcs] at hf
  obtain ⟨n, hp⟩ := trod_parts Tryd.underlying45 hf
  obtain ⟨y0, hy0⟩ := trod_part hp 0 rfl 33 0 1 rfl rfl cells33
  obtain ⟨y1, hy1⟩ := trod_part hp 1 rfl 40 1 1 rfl rfl cells40
  obtain ⟨y2, hy2⟩ := trod_part hp 2 rfl 27 2 1 rfl rfl cells27
  obtain ⟨e, e0, he⟩ := one_i64 Tryd.underlying33 hy0
  obtain ⟨z, e1, hz⟩ := one_u64 Tryd.underlying40 hy1
  obtain ⟨v, l, e2, hv, hl, hlen⟩ := one_bytes (by simp [hs]) hy2
  refine ⟨⟨e, z, l⟩, v, ?_, ⟨he, hz, hl⟩, hv, hlen⟩
  apply Array.ext_getElem?
  intro i
  have ee : ∀ i, cs[i]? = cs.toList[i]? := fun i => (Array.getElem?_toList (xs := cs)).symm
  rw [ee]
  match i with
  | 0 => exact e0
  | 1 => exact e1
  | 2 => exact e2
  | i + 3 => rw [List.getElem?_eq_none (by simp [hs])]; rfl
end
/-- what the rows list -/
abbrev LL : List (String × DataW Unit) := [("unicode/utf8.acceptRanges", Rows.laid_unicode_utf8_acceptRanges), ("byre/calls.fields", Rows.laid_byre_calls_fields), ("unicode/utf8.first", Rows.laid_unicode_utf8_first)]
def flds : List (List Nat) := (List.range 22).map fld
theorem laid_flds {H : Type} : (Rows.laid_byre_calls_fields : DataW H) = .agg (flds.map fun l => .lit (.string (l.map UInt8.ofNat))) := by kernel_rfl
theorem fields_of {W : World} (h : laidMetH Tryd.prog LL W) : FW W := by
  rw [MakeChecks.laidMetH_plain _ _ _ (by kernel_rfl)] at h
  obtain ⟨ps, ⟨_, _, _, _, _, _, _, _, _, _, ⟨g, t, cs, fuel, p, q, hg, ht, hv, hd, _, _⟩, _⟩, _, _⟩ := h
  obtain rfl := Option.some.inj ((show Tryd.prog.globalNamed "byre/calls.fields" = some 0 by kernel_rfl).symm.trans hg)
  obtain rfl := Option.some.inj ((show (Tryd.prog.globals[0]?).map (·.type) = some 107 by kernel_rfl).symm.trans ht)
  obtain ⟨xs, m, _, ex, _, hl, hel⟩ := DataW.trod_array Tryd.underlying107 hd
  intro r hr
  have hE := hel r hr
  rw [cells9, Nat.mul_one, List.getElem?_eq_getElem (by omega)] at hE
  obtain ⟨z, e1, e2, _⟩ := DataW.trod_string Tryd.underlying9 hE
  have e3 : (xs.map (·.1)) = flds.map fun l => (.lit (.string (l.map UInt8.ofNat)) : DataW Unit) := by
    have := (Prod.mk.inj ex).1
    rw [laid_flds] at this
    exact (DataW.agg.inj this).symm
  have e4 : (xs.map (·.1))[r]? = (flds.map fun l => (.lit (.string (l.map UInt8.ofNat)) : DataW Unit))[r]? := by rw [e3]
  have hfl : flds.length = 22 := by simp [flds]
  rw [List.getElem?_map, List.getElem?_map, List.getElem?_eq_getElem (by omega : r < xs.length), List.getElem?_eq_getElem (by omega : r < flds.length), e2] at e4
  have hz : z.data.toList = (fld r).map UInt8.ofNat := by
    simp only [Option.map_some, Option.some.injEq, DataW.lit.injEq, Lit.string.injEq] at e4
    rw [e4]
    simp [flds]
  have hz2 : z = strB (fld r) := by
    unfold strB
    cases z
    simp only at hz
    rw [← hz]
  rw [World.var?_cell hg hv r, ← hz2]
  have : cs.toList[r]? = some (.string z) := by
    have h0 : ((cs.toList.drop r).take 1)[0]? = some (.string z) := by rw [e1]; rfl
    simpa using h0
  simpa using this
end Go.Proofs.YtfoleblcaloeoaaDoor

/- What a law is handed: pairs of a call and an answer. -/
namespace Go.Proofs.YtfoleblcaloeoaaDoor
open Go Go.RowKit Go.ChangeShapes Go.WideShapes Go.ChangeAt Go.Deep

theorem cells47 : Tryd.prog.cellsOf 47 = 17 := by kernel_rfl
theorem cells4 : Tryd.prog.cellsOf 4 = 1 := by kernel_rfl
theorem trodAll_four {H : Type} {enc : TypeId × Value → H} {P : Program} {w : World} {base : Nat} {spare : Nat → Bool} {held : Bool} {t0 t1 t2 t3 : TypeId} {args : Array Value} {ds : List (DataW H)} {ps : List MemPlace} (h : DataW.TrodAll enc P w base spare held [t0, t1, t2, t3] args.toList ds ps) :
    ∃ v0 v1 v2 v3 d0 d1 d2 d3 p0 p1 p2 p3, args = #[v0, v1, v2, v3] ∧ ds = [d0, d1, d2, d3] ∧ ps = p0 ++ p1 ++ p2 ++ p3 ∧ DataW.Trod enc P w base spare held t0 v0 d0 p0 ∧ DataW.Trod enc P w base spare held t1 v1 d1 p1 ∧ DataW.Trod enc P w base spare held t2 v2 d2 p2 ∧ DataW.Trod enc P w base spare held t3 v3 d3 p3 := by
  obtain ⟨v0, vs0, d0, ds0, p0, q0, hargs, rfl, rfl, h0, k0⟩ := trodAll_cons h
  obtain ⟨v1, vs1, d1, ds1, p1, q1, rfl, rfl, rfl, h1, k1⟩ := trodAll_cons k0
  obtain ⟨v2, vs2, d2, ds2, p2, q2, rfl, rfl, rfl, h2, k2⟩ := trodAll_cons k1
  obtain ⟨v3, vs3, d3, ds3, p3, q3, rfl, rfl, rfl, h3, k3⟩ := trodAll_cons k2
  obtain ⟨rfl, rfl, rfl⟩ := trodAll_nil k3
  exact ⟨v0, v1, v2, v3, d0, d1, d2, d3, p0, p1, p2, p3, by cases args; simp_all, rfl, by simp, h0, h1, h2, h3⟩
theorem trodAll_five {H : Type} {enc : TypeId × Value → H} {P : Program} {w : World} {base : Nat} {spare : Nat → Bool} {held : Bool} {t0 t1 t2 t3 t4 : TypeId} {args : Array Value} {ds : List (DataW H)} {ps : List MemPlace} (h : DataW.TrodAll enc P w base spare held [t0, t1, t2, t3, t4] args.toList ds ps) :
    ∃ v0 v1 v2 v3 v4 d0 d1 d2 d3 d4 p0 p1 p2 p3 p4, args = #[v0, v1, v2, v3, v4] ∧ ds = [d0, d1, d2, d3, d4] ∧ ps = p0 ++ p1 ++ p2 ++ p3 ++ p4 ∧ DataW.Trod enc P w base spare held t0 v0 d0 p0 ∧ DataW.Trod enc P w base spare held t1 v1 d1 p1 ∧ DataW.Trod enc P w base spare held t2 v2 d2 p2 ∧ DataW.Trod enc P w base spare held t3 v3 d3 p3 ∧ DataW.Trod enc P w base spare held t4 v4 d4 p4 := by
  obtain ⟨v0, vs0, d0, ds0, p0, q0, hargs, rfl, rfl, h0, k0⟩ := trodAll_cons h
  obtain ⟨v1, vs1, d1, ds1, p1, q1, rfl, rfl, rfl, h1, k1⟩ := trodAll_cons k0
  obtain ⟨v2, vs2, d2, ds2, p2, q2, rfl, rfl, rfl, h2, k2⟩ := trodAll_cons k1
  obtain ⟨v3, vs3, d3, ds3, p3, q3, rfl, rfl, rfl, h3, k3⟩ := trodAll_cons k2
  obtain ⟨v4, vs4, d4, ds4, p4, q4, rfl, rfl, rfl, h4, k4⟩ := trodAll_cons k3
  obtain ⟨rfl, rfl, rfl⟩ := trodAll_nil k4
  exact ⟨v0, v1, v2, v3, v4, d0, d1, d2, d3, d4, p0, p1, p2, p3, p4, by cases args; simp_all, rfl, by simp, h0, h1, h2, h3, h4⟩
section
variable {H : Type} {enc : TypeId × Value → H} {w : World} {base : Nat} {spare : Nat → Bool} {held : Bool}
theorem open_two {fuel : Nat} {cs : List Value} {x : DataW H × List MemPlace} (hs : cs.length = 17) (h : DataW.trod enc Tryd.prog w base spare held fuel 47 cs = some x) : ∃ t : Tw, cs = twl t ∧ TwOk w t := by
  obtain ⟨n, hp⟩ := trod_parts Tryd.underlying47 h
  obtain ⟨y0, hy0⟩ := trod_part hp 0 rfl 42 0 12 rfl rfl cells42
  obtain ⟨y1, hy1⟩ := trod_part hp 1 rfl 45 12 3 rfl rfl cells45
  obtain ⟨y2, hy2⟩ := trod_part hp 2 rfl 4 15 1 rfl rfl cells4
  obtain ⟨y3, hy3⟩ := trod_part hp 3 rfl 40 16 1 rfl rfl cells40
  obtain ⟨x1, v1, e1, hx1, hv1, -⟩ := open_call (cs := ((cs.drop 0).take 12).toArray) (by simp [hs]) ⟨_, hy0⟩
  obtain ⟨x2, v2, e2, hx2, hv2, -⟩ := open_res (cs := ((cs.drop 12).take 3).toArray) (by simp [hs]) ⟨_, hy1⟩
  obtain ⟨b, e3, -⟩ := DataW.trod_bool Tryd.underlying4 hy2
  obtain ⟨hh, e4, hhh⟩ := one_u64 Tryd.underlying40 hy3
  refine ⟨⟨x1, v1, x2, v2, b, hh⟩, ?_, hx1, hx2, hv1, hv2, hhh⟩
  have e1' : cs.take 12 = (clc x1 v1).toList := by rw [← e1]; simp
  have e2' : (cs.drop 12).take 3 = (rsc x2 v2).toList := by rw [← e2]
  have e3' : cs[15]? = some (.bool b) := one_of e3
  show cs = (clc x1 v1).toList ++ ((rsc x2 v2).toList ++ [.bool b, .int .u64 hh])
  rw [← e1', ← e2']
  have h5 : cs.drop 15 = [.bool b, .int .u64 hh] := by
    refine List.ext_getElem? fun i => ?_
    rw [List.getElem?_drop]
    match i with
    | 0 => exact e3'
    | 1 => exact e4
    | i + 2 => rw [List.getElem?_eq_none (by omega)]; rfl
  rw [← h5]
  have h6 : (cs.drop 12).take 3 ++ cs.drop 15 = cs.drop 12 := by
    have := List.take_append_drop 3 (cs.drop 12)
    rw [List.drop_drop] at this
    exact this
  rw [h6, List.take_append_drop]
theorem open_twos {fuel : Nat} {v : Value} {x : DataW H × List MemPlace} (h : DataW.trod enc Tryd.prog w base spare held fuel 28 [v] = some x) : ∃ l : List Tw, RE twl 17 w v l ∧ (∀ t ∈ l, TwOk w t) ∧ (l.length : Int) ≤ 9223372036854775807 := by
  rcases open_slice Tryd.underlying28 h with ⟨hcs, _⟩ | ⟨a, len, cap, m, n, D, Pl, hcs, hb, hl, hm, hmm, hx, hi⟩
  · injection hcs with e
    subst e
    exact ⟨[], Rd.nil w 17 0 none, by simp, by simp⟩
  · injection hcs with e
    subst e
    have hml : len ≤ m := by rw [hmm]; split <;> omega
    have each : ∀ i, i < len → ∃ t : Tw, TwOk w t ∧ ∀ j u, (twl t)[j]? = some u → w.cell? ((a.add (i * 17)).add j) = some u := by
      intro i hil
      obtain ⟨cs', hc, ht'⟩ := hi i (by omega)
      rw [cells47] at hc
      obtain ⟨_, hcl, hat⟩ := World.cells?_some hc
      obtain ⟨o, ho, hr⟩ := open_two (by omega) ht'
      refine ⟨o, hr, fun j u hu => ?_⟩
      have hj : j < 17 := by
        have := (List.getElem?_eq_some_iff.1 hu).1
        rwa [twl_len] at this
      rw [hat j hj, ← ho] at *
      rw [← hu, List.getElem?_eq_getElem (by omega)]
    obtain ⟨l, hl1, hp⟩ := list_of each
    refine ⟨l, ⟨by rw [fc_length twl_len], some a, cap, by rw [hl1], by rw [hl1]; exact hl, fun hpos => ?_⟩, fun o ho => ?_, by rw [hl1]; unfold maxLen at hm; omega⟩
    · obtain ⟨g, off, rfl⟩ := plain_addr (by have := (hp 0 hpos).2 0 _ rfl; simpa using this)
      refine ⟨g, off, rfl, fun j u hu => ?_⟩
      have hj : j < l.length * 17 := by rw [← fc_length twl_len]; exact (List.getElem?_eq_some_iff.1 hu).1
      obtain ⟨q, r, rfl, hr⟩ : ∃ q r, j = q * 17 + r ∧ r < 17 := ⟨j / 17, j % 17, by omega, by omega⟩
      have hq : q < l.length := by omega
      rw [fc_get twl_len l q r hq hr] at hu
      have := (hp q hq).2 r u hu
      rw [Addr.add_lit, Addr.add_lit, Nat.add_assoc] at this
      exact this
    · obtain ⟨i, hi, rfl⟩ := List.getElem_of_mem ho
      exact (hp i hi).1
end
end Go.Proofs.YtfoleblcaloeoaaDoor
