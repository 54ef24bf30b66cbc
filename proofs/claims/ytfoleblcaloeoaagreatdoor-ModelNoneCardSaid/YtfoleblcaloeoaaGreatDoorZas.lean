/- Texts merged for the claim: NoA, TxP, NoB, CfO, CcD, MrO. -/
import Derived.Test.YtfoleblcaloeoaaGreatDoorZar
import Derived.Test.YtfoleblcaloeoaaGreatDoorZap
import Derived.Test.YtfoleblcaloeoaaGreatDoorZak
import Derived.Test.YtfoleblcaloeoaaGreatDoorZab
import Derived.Test.YtfoleblcaloeoaaGreatDoorZai
import Derived.Carry
import Derived.ProofKit
import Derived.OpenShut
import Derived.Test.YtfoleblcaloeoaaGreatDoorTie
import Derived.LaidMore
import Derived.Lay
import Derived.MakeChecks
/- Machines that are not there, or were not made: what they answer. -/
namespace Go.Proofs.YtfoleblcaloeoaaGreatDoor
open Go Go.RowKit

/-- a machine that was not made -/
def zmc : Array Value := cg (fun _ => 0) ++ #[.map none, .map none, .map none]
theorem zmc_size : zmc.size = 97 := by unfold zmc; rw [Array.size_append, cg_size]; rfl
theorem zmc_at : zmc[94]? = some (.map none) := by
  unfold zmc
  rw [Array.getElem?_append_right (by rw [cg_size]; omega), cg_size]
  rfl
theorem zeroMo : ∀ w, (zeroValue 62).run Tryz.prog w = .ok (.agg zmc) w := by
  have h : (Tryz.prog.info? 62).map (fun i => (i.zero, i.size)) = some (some (.agg zmc), 97) := by kernel_rfl
  exact (zero_of_info h).1
theorem run_allocMo (w : World) : (Instr.alloc 62 true (.tuple #[])).run Tryz.prog w = .ok (.pointer (some ⟨w.heap.size, 0, none⟩)) (w.alloc (.cells zmc 62)) := by
  have e : Tryz.zeroCells62 = zmc := by kernel_rfl
  simp [Instr.alloc, Sem.run_bind, zeroMo, newVar, newRow, run_newObj_alloc, Value.cells, e]
theorem wpList_allocMo {ops : Array Oper} {rest : List Oper} {o : Oper} {a : Act} {w : World} {Q : Exit → Act → World → Prop} (hg : o.guard = none) (ho : o.op = .alloc 62)
    (h : ∀ w', Blk w' w.heap.size 62 zmc → Chg [] w w' → wpList Tryz.prog ops Q rest (a.put o.dst (.pointer (some ⟨w.heap.size, 0, none⟩))) w') : wpList Tryz.prog ops Q (o :: rest) a w :=
  Great.wpList_runTo hg _ rfl _ _ (by unfold execOp; simp only [ho, Sem.run_bind, run_allocMo, Sem.run_pure, Result.andThen_ok]) (h _ (Blk.new w _ _) ((Chg.refl [] w).alloc _))
def NV (w : World) (p : Option Addr) : Prop := p = none ∨ ∃ m, p = some ⟨m, 0, none⟩ ∧ Blk w m 62 zmc
theorem NV.stay {w w' : World} {p : Option Addr} (h : NV w p) (hc : Chg [] w w') : NV w' p := h.imp id fun ⟨m, h1, h2⟩ => ⟨m, h1, h2.chg hc List.not_mem_nil⟩
theorem none_nv {w : World} {p : Option Addr} (h : NV w p) : Calls Tryz.prog 27 #[.pointer p] w fun e w' => e = .returned (.bool true) ∧ w = w' := by
  rcases h with rfl | ⟨m, rfl, h⟩
  · exact none_nil w
  · have q0 : w.cell? ⟨m, 94, none⟩ = some (.map none) := (h.cell 94).trans zmc_at
    have ql := h.lt
    have hem := fun W => eqM0 W
    clear h
    go_enter Tryz.func27, Tryz.ntmps27
    go_wp2_with fail
    go_ret
    exact ⟨rfl, rfl⟩
theorem Has_nv {w : World} {p : Option Addr} (h : NV w p) (pid : Int) : Calls Tryz.prog 23 #[.pointer p, .int .i64 pid] w fun e w' => e = .returned (.bool false) ∧ w = w' := by
  have HN := hide (none_nv h)
  clear h
  go_enter Tryz.func23, Tryz.ntmps23
  go_wp2_with fail
  refine HN.out.mono ?_
  rintro e W ⟨rfl, rfl⟩
  go_wp2_with fail
  go_ret
  exact ⟨rfl, rfl⟩
theorem Rights_nv {w : World} {p : Option Addr} (h : NV w p) (pid page : Int) : Calls Tryz.prog 19 #[.pointer p, .int .i64 pid, .int .i64 page] w fun e w' => e = .returned (.tuple #[.int .u8 0, .bool false]) ∧ w = w' := by
  have HN := hide (Has_nv h pid)
  clear h
  go_enter Tryz.func19, Tryz.ntmps19
  go_wp2_with fail
  refine HN.out.mono ?_
  rintro e W ⟨rfl, rfl⟩
  go_wp2_with fail
  refine bodyPost_ret (v := .tuple #[.int .u8 0, .bool false]) (by simp [results, Tryz.results19]) rfl ⟨rfl, rfl⟩
theorem Byte_nv {w : World} {p : Option Addr} (h : NV w p) (pid a : Int) : Calls Tryz.prog 20 #[.pointer p, .int .i64 pid, .int .i64 a] w fun e w' => e = .returned (.tuple #[.int .u8 0, .bool false]) ∧ w = w' := by
  have HN := hide (fun q => Rights_nv h pid q)
  clear h
  by_cases h0 : a < 0
  · have d0 : decide (a < 0) = true := decide_eq_true h0
    clear h0
    go_enter Tryz.func20, Tryz.ntmps20
    go_wp2_with fail
    refine bodyPost_ret (v := .tuple #[.int .u8 0, .bool false]) (by simp [results, Tryz.results20]) rfl ⟨rfl, rfl⟩
  · have d0 : decide (a < 0) = false := decide_eq_false h0
    clear h0
    go_enter Tryz.func20, Tryz.ntmps20
    go_wp2_with fail
    refine (HN.out _).mono ?_
    rintro e W ⟨rfl, rfl⟩
    go_wp2_with fail
    refine bodyPost_ret (v := .tuple #[.int .u8 0, .bool false]) (by simp [results, Tryz.results20]) rfl ⟨rfl, rfl⟩
theorem Object_nv {w : World} {p : Option Addr} (h : NV w p) (z : Int) : Calls Tryz.prog 22 #[.pointer p, .int .u64 z] w fun e w' => e = .returned (.tuple #[.slice none 0 0, .bool false]) ∧ w = w' := by
  have HN := hide (none_nv h)
  clear h
  go_enter Tryz.func22, Tryz.ntmps22
  go_wp2_with fail
  refine HN.out.mono ?_
  rintro e W ⟨rfl, rfl⟩
  go_wp2_with fail
  refine bodyPost_ret (v := .tuple #[.slice none 0 0, .bool false]) (by simp [results, Tryz.results22]) rfl ⟨rfl, rfl⟩
theorem Objects_nv {w : World} {p : Option Addr} (h : NV w p) : Calls Tryz.prog 24 #[.pointer p] w fun e w' => e = .returned (.slice none 0 0) ∧ w = w' := by
  have HN := hide (none_nv h)
  clear h
  go_enter Tryz.func24, Tryz.ntmps24
  go_wp2_with fail
  refine HN.out.mono ?_
  rintro e W ⟨rfl, rfl⟩
  go_wp2_with fail
  go_ret
  exact ⟨rfl, rfl⟩
theorem Copy_nv {w : World} {p : Option Addr} (h : NV w p) : Calls Tryz.prog 15 #[.pointer p] w fun e w' => e = .returned (.pointer none) ∧ w = w' := by
  have HN := hide (none_nv h)
  clear h
  go_enter Tryz.func15, Tryz.ntmps15
  go_wp2_with fail
  refine HN.out.mono ?_
  rintro e W ⟨rfl, rfl⟩
  go_wp2_with fail
  go_ret
  exact ⟨rfl, rfl⟩
theorem Same_nv {w : World} {p q : Option Addr} (h : NV w p) (h' : NV w q) : Calls Tryz.prog 16 #[.pointer p, .pointer q] w fun e w' => e = .returned (.bool true) ∧ w = w' := by
  have HN := hide (none_nv h)
  have HN' := hide (none_nv h')
  clear h h'
  go_enter Tryz.func16, Tryz.ntmps16
  go_wp2_with fail
  refine HN.out.mono ?_
  rintro e W ⟨rfl, rfl⟩
  go_wp2_with fail
  refine HN.out.mono ?_
  rintro e W ⟨rfl, rfl⟩
  go_wp2_with fail
  refine HN'.out.mono ?_
  rintro e W ⟨rfl, rfl⟩
  go_wp2_with fail
  go_ret
  exact ⟨rfl, rfl⟩
theorem results_two39 {fn : Func} {p q : Tmp} {w : World} {b : Nat} {k m : Int} (h : fn.results = #[.cell p 45, .tmp q]) (tmps : Array Value) (hp : tmps.getD p undef = .pointer (some ⟨b, 0, none⟩)) (hb : PolB w b k m) :
    (results fn tmps).run Tryz.prog w = .ok (.tuple #[.agg #[.int .u8 k, .int .u8 m], tmps.getD q undef]) w := by
  have hp' : tmps[p]?.getD undef = .pointer (some ⟨b, 0, none⟩) := by simpa using hp
  have hl := run_loadVar_row w b 45 45 _ (0, 0) _ hb Tryz.underlying45 rfl info39
  simp [results, h, hp', asAddr, hl]
theorem Policy_nv {w : World} {p : Option Addr} (h : NV w p) (pid page : Int) : Calls Tryz.prog 21 #[.pointer p, .int .i64 pid, .int .i64 page] w fun e w' => e = .returned (.tuple #[.agg #[.int .u8 0, .int .u8 0], .bool false]) ∧ Chg [] w w' := by
  have HN := hide (fun W (hc : Chg [] w W) => Has_nv (h.stay hc) pid)
  clear h
  go_enter Tryz.func21, Tryz.ntmps21
  go_wp2_with (refine wpList_alloc39 rfl rfl ?_; intro W1 h4 hc1; have H4 := hide h4; have HC1 := hide hc1; clear h4 hc1)
  refine (HN.out _ HC1.out).mono ?_
  rintro e W ⟨rfl, rfl⟩
  go_wp2_with (first | (refine wpList_store39 (b := w.heap.size) (k' := 0) (m' := 0) rfl _ _ rfl rfl rfl H4.out ?_; intro W2 h5 hc2; have H5 := hide h5; have HC2 := hide (HC1.out.trans hc2 (fun y hy => .inr (by obtain rfl := List.mem_singleton.1 hy; exact Nat.le_refl _))); clear h5 hc2))
  exact bodyPost_ret (v := .tuple #[.agg #[.int .u8 0, .int .u8 0], .bool false]) (results_two39 (p := 6) (q := 7) rfl _ rfl H5.out) rfl ⟨rfl, HC2.out⟩
theorem Step_nv {w : World} {p : Option Addr} (h : NV w p) (x : Cl) (v : Value) (r : Rs) (u : Value) : Calls Tryz.prog 11 #[.pointer p, .agg (clc x v), .agg (rsc r u)] w fun e w' => e = .returned (.bool false) ∧ Chg [] w w' := by
  have HN := hide (fun W (hc : Chg [] w W) => none_nv (h.stay hc))
  obtain ⟨W1, hW1⟩ : ∃ W1, W1 = w.alloc (.cells (clc x v) 47) := ⟨_, rfl⟩
  obtain ⟨W2, hW2⟩ : ∃ W2, W2 = W1.alloc (.cells (rsc r u) 40) := ⟨_, rfl⟩
  have HC2 := hide (show Chg [] w W2 by rw [hW2, hW1]; exact ((Chg.refl [] w).alloc _).alloc _)
  have HW1 := hide hW1
  have HW2 := hide hW2
  clear h hW1 hW2
  go_enter Tryz.func11, Tryz.ntmps11
  go_wp2_with (first | (refine wpList_box34 rfl _ rfl rfl ?_; try rw [← HW1.out]) | (refine wpList_boxRs rfl _ rfl rfl ?_; try rw [← HW2.out]))
  refine (HN.out _ HC2.out).mono ?_
  rintro e W ⟨rfl, rfl⟩
  go_wp2_with fail
  go_ret
  exact ⟨rfl, HC2.out⟩
end Go.Proofs.YtfoleblcaloeoaaGreatDoor

/- The walk of a plain region, its guards given by their slots. -/
namespace Go.Proofs.YtfoleblcaloeoaaGreatDoor
open Go
section
variable {P : Program} {ops : Array Oper}
theorem wpG_list {S : World → Prop} {Q : Exit → Act → World → Prop} : ∀ (l : List Oper) (ks : List Nat) (gs : List (Option (Nat × Bool))) (a : Act) (w : World), (l.zip gs).length = l.length → ((l.zip gs).all fun (o, g) => guardOk ops o g) = true → wpG P S Q l ks gs a w → wpList P ops Q l a w
  | [], _, _, a, w, _, _, h => by unfold wpG at h; exact h
  | o :: l, ks, [], a, w, h, _, _ => by simp at h
  | o :: l, ks, g :: gs, a, w, h, hg, hw => by
    simp only [List.zip_cons_cons, List.all_cons, Bool.and_eq_true, List.length_cons] at h hg
    have ih := fun ks a w => wpG_list (S := S) (Q := Q) l ks gs a w (by omega) hg.2
    unfold wpG at hw
    rw [List.headD_cons, ← guardOk_spec hg.1 a] at hw
    refine wpList_step fun K hK => ?_
    by_cases hwa : Region.wanted o (yielded ops a.tmps) = true
    · rw [if_pos hwa] at hw ⊢
      by_cases h0 : ks.headD 3 = 0
      · rw [if_pos h0] at hw
        obtain ⟨v, hv, hr⟩ := hw
        unfold Oper.wp
        rw [hv w]
        exact hK _ _ (ih _ _ _ hr)
      rw [if_neg h0] at hw
      by_cases h5 : ks.headD 3 = 5
      · rw [if_pos h5] at hw
        obtain ⟨hS, v, hv, hr⟩ := hw
        exact wp_noQ ((hv w hS).wp (hK _ _ (ih _ _ _ hr)))
      rw [if_neg h5] at hw
      by_cases h6 : ks.headD 3 = 6
      · rw [if_pos h6] at hw
        exact wp_noQ (Oper.wp_mono (fun a' w' hh => hK _ _ (ih _ _ _ hh.2)) hw.2)
      rw [if_neg h6] at hw
      exact wp_noQ (Oper.wp_mono (fun a' w' hh => hK _ _ (ih _ _ _ hh)) hw)
    · rw [if_neg hwa] at hw ⊢
      exact hK _ _ (ih _ _ _ hw)
/-- THE RULE for a plain region -/
theorem wp_region_p {id : Nat} {l : List Oper} {Q : Exit → Act → World → Prop} {a : Act} {w : World} (ks : List Nat) (gs : List (Option (Nat × Bool))) (S : World → Prop) (hR : restB l ks gs = true)
    (h : wpG P S Q l ks gs a w) : (Code.region id l.toArray false).wp P Q a w := by
  simp only [restB, Bool.and_eq_true, beq_iff_eq] at hR
  obtain ⟨⟨hk, hg⟩, hgd⟩ := hR
  exact wp_region_lit (wpG_list l ks gs a w (by rw [List.length_zip]; omega) hgd h)
end
end Go.Proofs.YtfoleblcaloeoaaGreatDoor

/- ModelNone: its walk (printed by gennob.py). -/
namespace Go.Proofs.YtfoleblcaloeoaaGreatDoor
open Go Go.RowKit

theorem zero45 : ∀ w, (zeroValue 45).run Tryz.prog w = .ok (.agg #[.int .u8 0, .int .u8 0]) w := zero39
set_option maxRecDepth 20000 in
set_option maxHeartbeats 8000000 in
theorem none_law {w : World} (hf : FW w) {t : Tw} (ht : TwOk w t) :
    Calls Tryz.prog 5 #[.agg (twl t).toArray] w fun e w' => e = .returned (.bool true) ∧ Chg [] w w' := by
  obtain ⟨W1, hW1⟩ : ∃ W1, W1 = w.alloc (.cells (twl t).toArray 49) := ⟨_, rfl⟩
  have c01 : Chg [] w W1 := by rw [hW1]; exact (Chg.refl [] w).alloc _
  have htb : TB W1 w.heap.size t := by rw [hW1]; exact Blk.new w _ _
  obtain ⟨b1, hb1⟩ : ∃ b, b = w.heap.size := ⟨_, rfl⟩
  rw [← hb1] at htb
  have HB1 := hide hb1
  have HTB := hide (fun W (h : Chg [] W1 W) => (Blk.chg htb h List.not_mem_nil : TB W b1 t))
  have HTO := hide (fun W (h : Chg [] W1 W) => ht.stay (c01.stay h))
  have HQ := hide (fun V (h : Chg [] W1 V) => (show V.cell? ⟨b1, 1, none⟩ = some (.int .i64 t.x.p) ∧ V.cell? ⟨b1, 3, none⟩ = some (.int .i64 t.x.g) ∧ V.cell? ⟨b1, 5, none⟩ = some (.int .i64 t.x.a) ∧ V.cell? ⟨b1, 10, none⟩ = some (.int .u64 t.x.h) ∧ b1 < V.heap.size from
    ⟨TB.cellX (HTB.out V h) (by omega) rfl, TB.cellX (HTB.out V h) (by omega) rfl, TB.cellX (HTB.out V h) (by omega) rfl, TB.cellX (HTB.out V h) (by omega) rfl, Blk.lt (HTB.out V h)⟩))
  have HK := hide (fun W (h : Chg [] W1 W) => known_any (hf.stay (c01.stay h)))
  have HC01 := hide c01
  have HW1 := hide hW1
  clear hf ht c01 htb hb1 hW1
  go_enter Tryz.func5, Tryz.ntmps5
  go_wp2_with (first | (refine wpList_box47 (t := t) rfl _ rfl rfl ?_; try rw [← HW1.out, ← HB1.out]) | (refine wpList_load47 (b := b1) (t := t) rfl _ rfl rfl ?_ ?_; (focus exact HTB.out _ (Chg.refl _ _))) | (refine wpList_one t rfl _ rfl ?_ ?_; (focus (simp [Act.eval, Act.put]; done)); intro V1 hre hv1))
  have HC1 := hide hv1
  have HT := hide (tame_any hre (fun y hy => by
    obtain rfl := List.mem_singleton.1 hy
    exact HTO.out V1 HC1.out) (n := 1) (by omega))
  clear hre hv1
  refine HT.out.mono ?_
  rintro e V1' ⟨rfl, rfl⟩
  cases htm : tameB [t] 1 with
  | false =>
    clear htm
    go_wp2_with fail
    refine (HK.out _ HC1.out).mono ?_
    rintro e W9 ⟨rfl, hc9⟩
    go_wp2_with fail
    go_ret
    exact ⟨rfl, HC01.out.stay (HC1.out.stay hc9)⟩
  | true =>
  clear htm HT
  go_upto_region 4 with (refine wpList_allocMo rfl rfl ?_; intro V2 hz2 hc2; have HZ2 := hide hz2; have HC2 := hide (HC1.out.stay hc2); clear hz2 hc2)
  obtain ⟨b3, hb3⟩ : ∃ b, b = V1.heap.size := ⟨_, rfl⟩
  rw [← hb3] at HZ2 ⊢
  clear hb3
  go_upto_region 6 with (fail)
  obtain ⟨V3, hV3⟩ : ∃ V3, V3 = V2.alloc (.cells #[.pointer none, .pointer (some ⟨b3, 0, none⟩)] 30) := ⟨_, rfl⟩
  have hv3 : Chg [] V2 V3 := by rw [hV3]; exact (Chg.refl [] V2).alloc _
  have hbs : Blk V3 V2.heap.size 30 #[.pointer none, .pointer (some ⟨b3, 0, none⟩)] := by rw [hV3]; exact Blk.new V2 _ _
  try rw [← hV3]
  have HC3 := hide (HC2.out.stay hv3)
  have HZ := hide (fun W (h : Chg [] V3 W) => (HZ2.out.chg (hv3.stay h) List.not_mem_nil : Blk W b3 62 zmc))
  obtain ⟨bs, hbs1⟩ : ∃ b, b = V2.heap.size := ⟨_, rfl⟩
  rw [← hbs1] at hbs ⊢
  have HBS := hide hbs
  clear hV3 hv3 hbs hbs1
  go_loopw [23] (fun i wr => ∃ k : Nat, k ≤ 2 ∧ i = .int .i64 k ∧ Hid (Chg [] V3 wr)) (fun i _ => 2 - (intOf i).toNat)
  case atStart => exact ⟨0, by omega, rfl, hide (Chg.refl _ _)⟩
  case round =>
    obtain ⟨k, hk, rfl, hch⟩ := hrel
    have HC := hide hch.out
    clear hch
    by_cases hkt : k < 2
    · have dl : decide ((k : Int) < 2) = true := decide_eq_true (by omega)
      have dl' : decide (k < 2) = true := decide_eq_true hkt
      have i0 : (0 : Int) ≤ (k : Int) := by omega
      have i1 : (k : Int) < 2 := by omega
      have hwi : IntKind.i64.wrap ((k : Int) + 1) = (k : Int) + 1 := by rw [IntKind.wrap_i64]; omega
      have hb := (show Blk wr bs _ _ from HBS.out.chg HC.out List.not_mem_nil)
      obtain ⟨p, hp, hnv⟩ : ∃ p, wr.cell? ⟨bs, k, none⟩ = some (.pointer p) ∧ ∀ W, Chg [] wr W → NV W p := by
        rcases (show k = 0 ∨ k = 1 by omega) with rfl | rfl
        · exact ⟨none, by simpa using hb.cell 0, fun _ _ => .inl rfl⟩
        · exact ⟨some ⟨b3, 0, none⟩, by simpa using hb.cell 1, fun W h => .inr ⟨b3, rfl, HZ.out W (HC.out.stay h)⟩⟩
      have lbs := hb.lt
      have HNV := hide hnv
      have HKT := hide hkt
      obtain ⟨q1, q3, q5, q10, l1⟩ := HQ.out wr (HC3.out.stay HC.out)
      have HWR := hide (HC3.out.stay HC.out)
      clear hb hnv hkt hk
      go_wp2_with fail
      refine (Rights_nv (HNV.out _ (Chg.refl _ _)) t.x.p t.x.g).mono ?_
      rintro e V4 ⟨rfl, rfl⟩
      go_wp2_with fail
      refine (Byte_nv (HNV.out _ (Chg.refl _ _)) t.x.p t.x.a).mono ?_
      rintro e V4 ⟨rfl, rfl⟩
      go_wp2_with fail
      refine (Policy_nv (HNV.out _ (Chg.refl _ _)) t.x.p t.x.g).mono ?_
      rintro e V4 ⟨rfl, hv4⟩
      have HC4 := hide hv4
      obtain ⟨r1, r3, r5, r10, l2⟩ := HQ.out V4 (HWR.out.stay HC4.out)
      clear hv4 q1 q3 q5 q10 l1
      go_wp2_with (first | (refine wpList_alloc39 rfl rfl ?_; intro V5 h5 hc5; have H5 := hide h5; have HC5 := hide (HC4.out.stay hc5); clear h5 hc5) | (refine wpList_store39 (b := V4.heap.size) (k' := 0) (m' := 0) rfl _ _ rfl rfl rfl H5.out ?_; intro V6 h6 hc6; have HC6 := hide (HC5.out.trans hc6 (fun y hy => .inr (by obtain rfl := List.mem_singleton.1 hy; have := HC4.out.size; omega))); obtain ⟨q1, q3, q5, q10, l1⟩ := HQ.out V6 (HWR.out.stay HC6.out); clear h6 hc6))
      refine (Object_nv (HNV.out _ HC6.out) t.x.h).mono ?_
      rintro e V7 ⟨rfl, rfl⟩
      go_upto_region 13 with (fail)
      refine wp_region_p [0,0,5,0,5,6,0,0,0,0,5,6,0,0,0,0,0,0,0,0,0,0,0,0,0,0,0,6,0,0,0,0,0,6,0,0,0,0,6,0,0,0,0,6,0,0] [none, none, none, none, none, none, none, some (77, false), some (77, false), some (77, false), some (77, false), some (77, false), none, none, some (84, false), none, none, some (87, false), none, none, some (90, false), none, none, some (93, false), none, none, some (96, false), some (96, false), some (96, false), some (96, false), none, none, some (102, false), some (102, false), some (102, false), none, none, some (107, false), some (107, false), some (107, false), none, none, some (112, false), some (112, false), some (112, false), none] (fun W => Chg [] wr W) (by kernel_rfl) ?_
      have hS : Chg [] wr V6 := HC6.out
      go_wp2_with (first | (refine wpG_hload 47 (ad := ⟨b1, 0, none⟩) (v := .agg (clc t.x t.v)) _ rfl rfl (fun w' hw' => TB.loadX (b := b1) (t := t) (HTB.out w' (HWR.out.stay hw'))) hS ?_) | (refine wpG_hload 40 (ad := ⟨b1, 12, none⟩) (v := .agg (rsc t.r t.u)) _ rfl rfl (fun w' hw' => TB.loadR (b := b1) (t := t) (HTB.out w' (HWR.out.stay hw'))) hS ?_) | (refine wpG_hload 3 (ad := ⟨b1, 1, none⟩) (v := .int .i64 t.x.p) _ rfl rfl (fun w' hw' => load_int Tryz.underlying3 (HQ.out w' (HWR.out.stay hw')).1) hS ?_) | (refine wpG_skip ?_ ?_; (focus (simp [wantG, undef]; done)); go_simp) | (refine wpG_calc rfl (fun K hK => ?_)) | (refine wpG_skip ?_ ?_; (focus (simp [wantG]; done)); go_simp) | (refine wpG_take ?_ ?_; (focus (simp [wantG]; done))) | (refine wpG_pure (fun K hK => ?_); go_simp; refine hK _ _ ?_; clear hK K) | (refine wpG_deed (by decide) (fun K hK => ?_); go_simp) | (refine wpG_nil ?_))
      (refine wpG_keeps hS (fun K hK => ?_))
      go_simp
      refine (Step_nv (HNV.out _ hS) t.x t.v t.r t.u).mono ?_
      rintro e V9 ⟨rfl, hv9⟩
      replace hS := hS.stay hv9
      refine hK _ _ hS ?_
      clear hK K hv9
      go_wp2_with (first | (refine wpG_hload 47 (ad := ⟨b1, 0, none⟩) (v := .agg (clc t.x t.v)) _ rfl rfl (fun w' hw' => TB.loadX (b := b1) (t := t) (HTB.out w' (HWR.out.stay hw'))) hS ?_) | (refine wpG_hload 40 (ad := ⟨b1, 12, none⟩) (v := .agg (rsc t.r t.u)) _ rfl rfl (fun w' hw' => TB.loadR (b := b1) (t := t) (HTB.out w' (HWR.out.stay hw'))) hS ?_) | (refine wpG_hload 3 (ad := ⟨b1, 1, none⟩) (v := .int .i64 t.x.p) _ rfl rfl (fun w' hw' => load_int Tryz.underlying3 (HQ.out w' (HWR.out.stay hw')).1) hS ?_) | (refine wpG_skip ?_ ?_; (focus (simp [wantG, undef]; done)); go_simp) | (refine wpG_calc rfl (fun K hK => ?_)) | (refine wpG_skip ?_ ?_; (focus (simp [wantG]; done)); go_simp) | (refine wpG_take ?_ ?_; (focus (simp [wantG]; done))) | (refine wpG_pure (fun K hK => ?_); go_simp; refine hK _ _ ?_; clear hK K) | (refine wpG_deed (by decide) (fun K hK => ?_); go_simp) | (refine wpG_nil ?_))
      (refine wpG_keeps hS (fun K hK => ?_))
      go_simp
      refine (Has_nv (HNV.out _ hS) t.x.p).mono ?_
      rintro e V9 ⟨rfl, rfl⟩
      refine hK _ _ hS ?_
      clear hK K
      go_wp2_with (first | (refine wpG_hload 47 (ad := ⟨b1, 0, none⟩) (v := .agg (clc t.x t.v)) _ rfl rfl (fun w' hw' => TB.loadX (b := b1) (t := t) (HTB.out w' (HWR.out.stay hw'))) hS ?_) | (refine wpG_hload 40 (ad := ⟨b1, 12, none⟩) (v := .agg (rsc t.r t.u)) _ rfl rfl (fun w' hw' => TB.loadR (b := b1) (t := t) (HTB.out w' (HWR.out.stay hw'))) hS ?_) | (refine wpG_hload 3 (ad := ⟨b1, 1, none⟩) (v := .int .i64 t.x.p) _ rfl rfl (fun w' hw' => load_int Tryz.underlying3 (HQ.out w' (HWR.out.stay hw')).1) hS ?_) | (refine wpG_skip ?_ ?_; (focus (simp [wantG, undef]; done)); go_simp) | (refine wpG_calc rfl (fun K hK => ?_)) | (refine wpG_skip ?_ ?_; (focus (simp [wantG]; done)); go_simp) | (refine wpG_take ?_ ?_; (focus (simp [wantG]; done))) | (refine wpG_pure (fun K hK => ?_); go_simp; refine hK _ _ ?_; clear hK K) | (refine wpG_deed (by decide) (fun K hK => ?_); go_simp) | (refine wpG_nil ?_))
      (refine wpG_keeps hS (fun K hK => ?_))
      go_simp
      refine (Objects_nv (HNV.out _ hS)).mono ?_
      rintro e V9 ⟨rfl, rfl⟩
      refine hK _ _ hS ?_
      clear hK K
      go_wp2_with (first | (refine wpG_hload 47 (ad := ⟨b1, 0, none⟩) (v := .agg (clc t.x t.v)) _ rfl rfl (fun w' hw' => TB.loadX (b := b1) (t := t) (HTB.out w' (HWR.out.stay hw'))) hS ?_) | (refine wpG_hload 40 (ad := ⟨b1, 12, none⟩) (v := .agg (rsc t.r t.u)) _ rfl rfl (fun w' hw' => TB.loadR (b := b1) (t := t) (HTB.out w' (HWR.out.stay hw'))) hS ?_) | (refine wpG_hload 3 (ad := ⟨b1, 1, none⟩) (v := .int .i64 t.x.p) _ rfl rfl (fun w' hw' => load_int Tryz.underlying3 (HQ.out w' (HWR.out.stay hw')).1) hS ?_) | (refine wpG_skip ?_ ?_; (focus (simp [wantG, undef]; done)); go_simp) | (refine wpG_calc rfl (fun K hK => ?_)) | (refine wpG_skip ?_ ?_; (focus (simp [wantG]; done)); go_simp) | (refine wpG_take ?_ ?_; (focus (simp [wantG]; done))) | (refine wpG_pure (fun K hK => ?_); go_simp; refine hK _ _ ?_; clear hK K) | (refine wpG_deed (by decide) (fun K hK => ?_); go_simp) | (refine wpG_nil ?_))
      (refine wpG_keeps hS (fun K hK => ?_))
      go_simp
      refine (Copy_nv (HNV.out _ hS)).mono ?_
      rintro e V9 ⟨rfl, rfl⟩
      refine hK _ _ hS ?_
      clear hK K
      go_wp2_with (first | (refine wpG_hload 47 (ad := ⟨b1, 0, none⟩) (v := .agg (clc t.x t.v)) _ rfl rfl (fun w' hw' => TB.loadX (b := b1) (t := t) (HTB.out w' (HWR.out.stay hw'))) hS ?_) | (refine wpG_hload 40 (ad := ⟨b1, 12, none⟩) (v := .agg (rsc t.r t.u)) _ rfl rfl (fun w' hw' => TB.loadR (b := b1) (t := t) (HTB.out w' (HWR.out.stay hw'))) hS ?_) | (refine wpG_hload 3 (ad := ⟨b1, 1, none⟩) (v := .int .i64 t.x.p) _ rfl rfl (fun w' hw' => load_int Tryz.underlying3 (HQ.out w' (HWR.out.stay hw')).1) hS ?_) | (refine wpG_skip ?_ ?_; (focus (simp [wantG, undef]; done)); go_simp) | (refine wpG_calc rfl (fun K hK => ?_)) | (refine wpG_skip ?_ ?_; (focus (simp [wantG]; done)); go_simp) | (refine wpG_take ?_ ?_; (focus (simp [wantG]; done))) | (refine wpG_pure (fun K hK => ?_); go_simp; refine hK _ _ ?_; clear hK K) | (refine wpG_deed (by decide) (fun K hK => ?_); go_simp) | (refine wpG_nil ?_))
      (refine wpG_keeps hS (fun K hK => ?_))
      go_simp
      refine (Same_nv (HNV.out _ hS) (.inl rfl)).mono ?_
      rintro e V9 ⟨rfl, rfl⟩
      refine hK _ _ hS ?_
      clear hK K
      go_wp2_with (first | (refine wpG_hload 47 (ad := ⟨b1, 0, none⟩) (v := .agg (clc t.x t.v)) _ rfl rfl (fun w' hw' => TB.loadX (b := b1) (t := t) (HTB.out w' (HWR.out.stay hw'))) hS ?_) | (refine wpG_hload 40 (ad := ⟨b1, 12, none⟩) (v := .agg (rsc t.r t.u)) _ rfl rfl (fun w' hw' => TB.loadR (b := b1) (t := t) (HTB.out w' (HWR.out.stay hw'))) hS ?_) | (refine wpG_hload 3 (ad := ⟨b1, 1, none⟩) (v := .int .i64 t.x.p) _ rfl rfl (fun w' hw' => load_int Tryz.underlying3 (HQ.out w' (HWR.out.stay hw')).1) hS ?_) | (refine wpG_skip ?_ ?_; (focus (simp [wantG, undef]; done)); go_simp) | (refine wpG_calc rfl (fun K hK => ?_)) | (refine wpG_skip ?_ ?_; (focus (simp [wantG]; done)); go_simp) | (refine wpG_take ?_ ?_; (focus (simp [wantG]; done))) | (refine wpG_pure (fun K hK => ?_); go_simp; refine hK _ _ ?_; clear hK K) | (refine wpG_deed (by decide) (fun K hK => ?_); go_simp) | (refine wpG_nil ?_))
      (refine wpG_keeps hS (fun K hK => ?_))
      go_simp
      refine (Same_nv (HNV.out _ hS) (.inr ⟨b3, rfl, HZ.out _ (HC.out.stay hS)⟩)).mono ?_
      rintro e V9 ⟨rfl, rfl⟩
      refine hK _ _ hS ?_
      clear hK K
      go_wp2_with (first | (refine wpG_hload 47 (ad := ⟨b1, 0, none⟩) (v := .agg (clc t.x t.v)) _ rfl rfl (fun w' hw' => TB.loadX (b := b1) (t := t) (HTB.out w' (HWR.out.stay hw'))) hS ?_) | (refine wpG_hload 40 (ad := ⟨b1, 12, none⟩) (v := .agg (rsc t.r t.u)) _ rfl rfl (fun w' hw' => TB.loadR (b := b1) (t := t) (HTB.out w' (HWR.out.stay hw'))) hS ?_) | (refine wpG_hload 3 (ad := ⟨b1, 1, none⟩) (v := .int .i64 t.x.p) _ rfl rfl (fun w' hw' => load_int Tryz.underlying3 (HQ.out w' (HWR.out.stay hw')).1) hS ?_) | (refine wpG_skip ?_ ?_; (focus (simp [wantG, undef]; done)); go_simp) | (refine wpG_calc rfl (fun K hK => ?_)) | (refine wpG_skip ?_ ?_; (focus (simp [wantG]; done)); go_simp) | (refine wpG_take ?_ ?_; (focus (simp [wantG]; done))) | (refine wpG_pure (fun K hK => ?_); go_simp; refine hK _ _ ?_; clear hK K) | (refine wpG_deed (by decide) (fun K hK => ?_); go_simp) | (refine wpG_nil ?_))
      go_roundw
      case rel => exact ⟨k + 1, by have := HKT.out; omega, by go_num, hide (HC.out.stay hS)⟩
      case measure => have := HKT.out; simp [intOf]; omega
    · obtain rfl : k = 2 := by omega
      clear hkt hk
      go_wp2_with fail
      refine (HK.out _ (HC3.out.stay HC.out)).mono ?_
      rintro e W9 ⟨rfl, hc9⟩
      go_wp2_with fail
      go_ret
      exact ⟨rfl, HC01.out.stay ((HC3.out.stay HC.out).stay hc9)⟩
end Go.Proofs.YtfoleblcaloeoaaGreatDoor

/- A config that a law is handed. -/
namespace Go.Proofs.YtfoleblcaloeoaaGreatDoor
open Go Go.RowKit Go.ChangeShapes Go.WideShapes Go.ChangeAt Go.Deep

theorem Tryz.own : ownKnob Tryz.prog.godebug = none := by kernel_rfl
section
variable {H : Type} {enc : TypeId × Value → H} {w : World} {base : Nat} {spare : Nat → Bool} {held : Bool}
theorem one_of {L : List Value} {i : Nat} {v : Value} (h : (L.drop i).take 1 = [v]) : L[i]? = some v := by
  have : ((L.drop i).take 1)[0]? = some v := by rw [h]; rfl
  rw [List.getElem?_take_of_lt (by omega), List.getElem?_drop] at this
  simpa using this
theorem one_int {fuel : Nat} {L : List Value} {i : Nat} {x : DataW H × List MemPlace} (h : DataW.trod enc Tryz.prog w base spare held fuel 3 ((L.drop i).take 1) = some x) : ∃ z, L[i]? = some (.int .i64 z) := by
  obtain ⟨z, e, _⟩ := DataW.trod_int Tryz.underlying3 h
  exact ⟨z, one_of e⟩
theorem arr_int {fuel t n : Nat} {L : List Value} {x : DataW H × List MemPlace} (hu : Tryz.prog.underlying t = some (.array n 3)) (h : DataW.trod enc Tryz.prog w base spare held fuel t L = some x) : ∀ i, i < n → ∃ z, L[i]? = some (.int .i64 z) := by
  obtain ⟨xs, m, _, _, _, hl, hel⟩ := DataW.trod_array hu h
  intro i hi
  have h1 := hel i hi
  rw [cells3, Nat.mul_one, List.getElem?_eq_getElem (by rw [hl]; exact hi)] at h1
  exact one_int h1
theorem sub_at {L : List Value} {o n i : Nat} {v : Value} (h : ((L.drop o).take n)[i]? = some v) : L[o + i]? = some v := by
  have hi : i < n := by
    have := (List.getElem?_eq_some_iff.1 h).1
    rw [List.length_take] at this
    omega
  rw [List.getElem?_take_of_lt hi, List.getElem?_drop] at h
  exact h
theorem cells22 : Tryz.prog.cellsOf 22 = 16 := by kernel_rfl
theorem cells24 : Tryz.prog.cellsOf 24 = 64 := by kernel_rfl
theorem cells26 : Tryz.prog.cellsOf 26 = 94 := by kernel_rfl
theorem open_cfg {cs : Array Value} {d : DataW H} {p : List MemPlace} (hs : cs.size = 94) (h : DataW.Trod enc Tryz.prog w base spare held 26 (.agg cs) d p) : ∃ c : Cf, cs = cg c := by
  obtain ⟨fuel, hf⟩ := h
  have hcs : (Value.agg cs).cells.toList = cs.toList := rfl
  rw [hcs] at hf
  obtain ⟨n, hp⟩ := trod_parts Tryz.underlying26 hf
  have each : ∀ i, i < 94 → ∃ z, cs.toList[i]? = some (.int .i64 z) := by
    intro i hi
    by_cases i0 : i = 0
    · subst i0
      obtain ⟨y, hy⟩ := trod_part hp 0 rfl 3 0 1 rfl rfl cells3
      exact one_int hy
    by_cases i1 : i = 1
    · subst i1
      obtain ⟨y, hy⟩ := trod_part hp 1 rfl 3 1 1 rfl rfl cells3
      exact one_int hy
    by_cases i2 : i < 18
    · obtain ⟨y, hy⟩ := trod_part hp 2 rfl 22 2 16 rfl rfl cells22
      obtain ⟨z, hz⟩ := arr_int Tryz.underlying22 hy (i - 2) (by omega)
      have := sub_at hz
      rw [show 2 + (i - 2) = i by omega] at this
      exact ⟨z, this⟩
    by_cases i3 : i < 26
    · obtain ⟨y, hy⟩ := trod_part hp 3 rfl 23 18 8 rfl rfl cells23
      obtain ⟨z, hz⟩ := arr_int Tryz.underlying23 hy (i - 18) (by omega)
      have := sub_at hz
      rw [show 18 + (i - 18) = i by omega] at this
      exact ⟨z, this⟩
    by_cases i4 : i < 90
    · obtain ⟨y, hy⟩ := trod_part hp 4 rfl 24 26 64 rfl rfl cells24
      obtain ⟨xs, m, _, _, _, hl, hel⟩ := DataW.trod_array Tryz.underlying24 hy
      have h1 := hel ((i - 26) / 8) (by omega)
      rw [cells23, List.getElem?_eq_getElem (by rw [hl]; omega)] at h1
      obtain ⟨z, hz⟩ := arr_int Tryz.underlying23 h1 ((i - 26) % 8) (by omega)
      have := sub_at (sub_at hz)
      rw [show 26 + ((i - 26) / 8 * 8 + (i - 26) % 8) = i by omega] at this
      exact ⟨z, this⟩
    rcases (by omega : i = 90 ∨ i = 91 ∨ i = 92 ∨ i = 93) with rfl | rfl | rfl | rfl
    · obtain ⟨y, hy⟩ := trod_part hp 5 rfl 3 90 1 rfl rfl cells3
      exact one_int hy
    · obtain ⟨y, hy⟩ := trod_part hp 6 rfl 3 91 1 rfl rfl cells3
      exact one_int hy
    · obtain ⟨y, hy⟩ := trod_part hp 7 rfl 3 92 1 rfl rfl cells3
      exact one_int hy
    · obtain ⟨y, hy⟩ := trod_part hp 8 rfl 3 93 1 rfl rfl cells3
      exact one_int hy
  classical
  refine ⟨fun i => if h : i < 94 then (each i h).choose else 0, cg_of hs fun i hi => ?_⟩
  simp only [dif_pos hi]
  exact (Array.getElem?_toList (xs := cs)).symm.trans (each i hi).choose_spec
end
theorem trodAll_single {H : Type} {enc : TypeId × Value → H} {P : Program} {w : World} {base : Nat} {spare : Nat → Bool} {held : Bool} {t0 : TypeId} {args : Array Value} {ds : List (DataW H)} {ps : List MemPlace} (h : DataW.TrodAll enc P w base spare held [t0] args.toList ds ps) :
    ∃ v0 d0 p0, args = #[v0] ∧ ds = [d0] ∧ ps = p0 ∧ DataW.Trod enc P w base spare held t0 v0 d0 p0 := by
  obtain ⟨v0, vs0, d0, ds0, p0, q0, hargs, rfl, rfl, h0, k0⟩ := trodAll_cons h
  obtain ⟨rfl, rfl, rfl⟩ := trodAll_nil k0
  exact ⟨v0, d0, p0, by cases args; simp_all, rfl, by simp, h0⟩
theorem trodAll_two {H : Type} {enc : TypeId × Value → H} {P : Program} {w : World} {base : Nat} {spare : Nat → Bool} {held : Bool} {t0 t1 : TypeId} {args : Array Value} {ds : List (DataW H)} {ps : List MemPlace} (h : DataW.TrodAll enc P w base spare held [t0, t1] args.toList ds ps) :
    ∃ v0 v1 d0 d1 p0 p1, args = #[v0, v1] ∧ ds = [d0, d1] ∧ ps = p0 ++ p1 ∧ DataW.Trod enc P w base spare held t0 v0 d0 p0 ∧ DataW.Trod enc P w base spare held t1 v1 d1 p1 := by
  obtain ⟨v0, vs0, d0, ds0, p0, q0, hargs, rfl, rfl, h0, k0⟩ := trodAll_cons h
  obtain ⟨v1, vs1, d1, ds1, p1, q1, rfl, rfl, rfl, h1, k1⟩ := trodAll_cons k0
  obtain ⟨rfl, rfl, rfl⟩ := trodAll_nil k1
  exact ⟨v0, v1, d0, d1, p0, p1, by cases args; simp_all, rfl, by simp, h0, h1⟩
theorem trodAll_three {H : Type} {enc : TypeId × Value → H} {P : Program} {w : World} {base : Nat} {spare : Nat → Bool} {held : Bool} {t0 t1 t2 : TypeId} {args : Array Value} {ds : List (DataW H)} {ps : List MemPlace} (h : DataW.TrodAll enc P w base spare held [t0, t1, t2] args.toList ds ps) :
    ∃ v0 v1 v2 d0 d1 d2 p0 p1 p2, args = #[v0, v1, v2] ∧ ds = [d0, d1, d2] ∧ ps = p0 ++ p1 ++ p2 ∧ DataW.Trod enc P w base spare held t0 v0 d0 p0 ∧ DataW.Trod enc P w base spare held t1 v1 d1 p1 ∧ DataW.Trod enc P w base spare held t2 v2 d2 p2 := by
  obtain ⟨v0, vs0, d0, ds0, p0, q0, hargs, rfl, rfl, h0, k0⟩ := trodAll_cons h
  obtain ⟨v1, vs1, d1, ds1, p1, q1, rfl, rfl, rfl, h1, k1⟩ := trodAll_cons k0
  obtain ⟨v2, vs2, d2, ds2, p2, q2, rfl, rfl, rfl, h2, k2⟩ := trodAll_cons k1
  obtain ⟨rfl, rfl, rfl⟩ := trodAll_nil k2
  exact ⟨v0, v1, v2, d0, d1, d2, p0, p1, p2, by cases args; simp_all, rfl, by simp, h0, h1, h2⟩
end Go.Proofs.YtfoleblcaloeoaaGreatDoor

/- What a law is handed: bytes, a call, a result; the listed variable. -/
namespace Go.Proofs.YtfoleblcaloeoaaGreatDoor
open Go Go.RowKit Go.ChangeShapes Go.WideShapes Go.ChangeAt Go.Deep

theorem cells5 : Tryz.prog.cellsOf 5 = 1 := by kernel_rfl
theorem cells9 : Tryz.prog.cellsOf 9 = 1 := by kernel_rfl
theorem cells42 : Tryz.prog.cellsOf 42 = 1 := by kernel_rfl
theorem cells43 : Tryz.prog.cellsOf 43 = 1 := by kernel_rfl
theorem cells45 : Tryz.prog.cellsOf 45 = 2 := by kernel_rfl
theorem cells37 : Tryz.prog.cellsOf 37 = 1 := by kernel_rfl
theorem cells38 : Tryz.prog.cellsOf 38 = 1 := by kernel_rfl
theorem cells47 : Tryz.prog.cellsOf 47 = 12 := by kernel_rfl
theorem cells31 : Tryz.prog.cellsOf 31 = 1 := by kernel_rfl
theorem cells40 : Tryz.prog.cellsOf 40 = 3 := by kernel_rfl
section
variable {H : Type} {enc : TypeId × Value → H} {w : World} {base : Nat} {spare : Nat → Bool} {held : Bool}
theorem open_bytes {fuel : Nat} {v : Value} {x : DataW H × List MemPlace}
    (h : DataW.trod enc Tryz.prog w base spare held fuel 38 [v] = some x) : ∃ l : List Nat, RB w v l ∧ (∀ b ∈ l, b < 256) ∧ (l.length : Int) ≤ 9223372036854775807 := by
  rcases open_ints Tryz.underlying38 Tryz.underlying5 cells5 h with ⟨hcs, _⟩ | ⟨a, len, cap, zs, hcs, _, hlc, hcm, hlen, _, hcell, hwf⟩
  · injection hcs with e
    subst e
    exact ⟨[], Rd.nil w 1 0 none, by simp, by simp⟩
  · injection hcs with e
    subst e
    have hzl : len ≤ zs.length := by rw [hlen]; split <;> omega
    have hl : ((zs.take len).map Int.toNat).length = len := by simp; omega
    have hb : ∀ i, (hi : i < zs.length) → 0 ≤ zs[i] ∧ zs[i] ≤ 255 := fun i hi => bounds_u8 (hwf _ (List.getElem_mem hi))
    refine ⟨(zs.take len).map Int.toNat, ?_, fun b hbm => ?_, by rw [hl]; unfold maxLen at hcm; omega⟩
    · refine ⟨by rw [fc_length ucl_len], some a, cap, by rw [hl], by rw [hl]; exact hlc, fun hpos => ?_⟩
      rw [hl] at hpos
      obtain ⟨g, off, rfl⟩ := plain_addr (by have := hcell 0 (by omega); exact this)
      refine ⟨g, off, rfl, fun j u hu => ?_⟩
      have hj : j < len := by
        have := (List.getElem?_eq_some_iff.1 hu).1
        rw [fc_length ucl_len, hl] at this
        omega
      have hg := fc_get ucl_len ((zs.take len).map Int.toNat) j 0 (by rw [hl]; exact hj) (by omega)
      rw [Nat.mul_one, Nat.add_zero, hu] at hg
      have hc := hcell j (by omega)
      rw [Addr.add_lit] at hc
      rw [hc, hg]
      have hz := hb j (by omega)
      simp [ucl, List.getD, List.getElem?_eq_getElem (show j < zs.length by omega), Int.toNat_of_nonneg hz.1]
    · obtain ⟨z, hz, rfl⟩ := List.mem_map.1 hbm
      have := bounds_u8 (hwf z (List.mem_of_mem_take hz))
      omega
theorem one_u8 {fuel : Nat} {t : TypeId} (ht : Tryz.prog.underlying t = some (.int .u8)) {L : List Value} {i : Nat} {x : DataW H × List MemPlace} (h : DataW.trod enc Tryz.prog w base spare held fuel t ((L.drop i).take 1) = some x) : ∃ z : Nat, L[i]? = some (.int .u8 z) ∧ z < 256 := by
  obtain ⟨z, e, _, hw⟩ := DataW.trod_int ht h
  have := bounds_u8 hw
  exact ⟨z.toNat, by rw [one_of e, Int.toNat_of_nonneg this.1], by omega⟩
theorem one_u64 {fuel : Nat} {t : TypeId} (ht : Tryz.prog.underlying t = some (.int .u64)) {L : List Value} {i : Nat} {x : DataW H × List MemPlace} (h : DataW.trod enc Tryz.prog w base spare held fuel t ((L.drop i).take 1) = some x) : ∃ z : Nat, L[i]? = some (.int .u64 z) ∧ z < 18446744073709551616 := by
  obtain ⟨z, e, _, hw⟩ := DataW.trod_int ht h
  have := bounds_u64 hw
  exact ⟨z.toNat, by rw [one_of e, Int.toNat_of_nonneg this.1], by omega⟩
theorem one_i64 {fuel : Nat} {t : TypeId} (ht : Tryz.prog.underlying t = some (.int .i64)) {L : List Value} {i : Nat} {x : DataW H × List MemPlace} (h : DataW.trod enc Tryz.prog w base spare held fuel t ((L.drop i).take 1) = some x) : ∃ z : Int, L[i]? = some (.int .i64 z) ∧ -9223372036854775808 ≤ z ∧ z ≤ 9223372036854775807 := by
  obtain ⟨z, e, _, hw⟩ := DataW.trod_int ht h
  exact ⟨z, one_of e, bounds_i64 hw⟩
theorem one_bytes {fuel : Nat} {L : List Value} {i : Nat} {x : DataW H × List MemPlace} (hi : i < L.length) (h : DataW.trod enc Tryz.prog w base spare held fuel 38 ((L.drop i).take 1) = some x) : ∃ (v : Value) (l : List Nat), L[i]? = some v ∧ RB w v l ∧ (∀ b ∈ l, b < 256) ∧ (l.length : Int) ≤ 9223372036854775807 := by
  have e : (L.drop i).take 1 = [L[i]] := by rw [List.drop_eq_getElem_cons hi]; rfl
  rw [e] at h
  obtain ⟨l, h1, h2, h3⟩ := open_bytes h
  exact ⟨L[i], l, List.getElem?_eq_getElem hi, h1, h2, h3⟩
theorem open_call {cs : Array Value} {d : DataW H} {p : List MemPlace} (hs : cs.size = 12) (h : DataW.Trod enc Tryz.prog w base spare held 47 (.agg cs) d p) : ∃ (x : Cl) (v : Value), cs = clc x v ∧ x.Ok ∧ RB w v x.l ∧ (x.l.length : Int) ≤ 9223372036854775807 := by
  obtain ⟨fuel, hf⟩ := h
  have hcs : (Value.agg cs).cells.toList = cs.toList := rfl
  rw [hcs] at hf
  obtain ⟨n, hp⟩ := trod_parts Tryz.underlying47 hf
  obtain ⟨y0, hy0⟩ := trod_part hp 0 rfl 42 0 1 rfl rfl cells42
  obtain ⟨y1, hy1⟩ := trod_part hp 1 rfl 3 1 1 rfl rfl cells3
  obtain ⟨y2, hy2⟩ := trod_part hp 2 rfl 3 2 1 rfl rfl cells3
  obtain ⟨y3, hy3⟩ := trod_part hp 3 rfl 3 3 1 rfl rfl cells3
  obtain ⟨y4, hy4⟩ := trod_part hp 4 rfl 3 4 1 rfl rfl cells3
  obtain ⟨y5, hy5⟩ := trod_part hp 5 rfl 3 5 1 rfl rfl cells3
  obtain ⟨y6, hy6⟩ := trod_part hp 6 rfl 3 6 1 rfl rfl cells3
  obtain ⟨y7, hy7⟩ := trod_part hp 7 rfl 5 7 1 rfl rfl cells5
  obtain ⟨y8, hy8⟩ := trod_part hp 8 rfl 45 8 2 rfl rfl cells45
  obtain ⟨y9, hy9⟩ := trod_part hp 9 rfl 37 10 1 rfl rfl cells37
  obtain ⟨y10, hy10⟩ := trod_part hp 10 rfl 38 11 1 rfl rfl cells38
  obtain ⟨k, e0, hk⟩ := one_u8 Tryz.underlying42 hy0
  obtain ⟨p, e1, hp'⟩ := one_i64 Tryz.underlying3 hy1
  obtain ⟨nn, e2, hn⟩ := one_i64 Tryz.underlying3 hy2
  obtain ⟨g, e3, hg⟩ := one_i64 Tryz.underlying3 hy3
  obtain ⟨c, e4, hc⟩ := one_i64 Tryz.underlying3 hy4
  obtain ⟨a, e5, ha⟩ := one_i64 Tryz.underlying3 hy5
  obtain ⟨s, e6, hs'⟩ := one_i64 Tryz.underlying3 hy6
  obtain ⟨r, e7, hr⟩ := one_u8 Tryz.underlying5 hy7
  obtain ⟨n', hq⟩ := trod_parts Tryz.underlying45 hy8
  obtain ⟨z0, hz0⟩ := trod_part hq 0 rfl 43 0 1 rfl rfl cells43
  obtain ⟨z1, hz1⟩ := trod_part hq 1 rfl 5 1 1 rfl rfl cells5
  obtain ⟨ok, e8, hok⟩ := one_u8 Tryz.underlying43 hz0
  obtain ⟨om, e9, hom⟩ := one_u8 Tryz.underlying5 hz1
  obtain ⟨hh, e10, hhh⟩ := one_u64 Tryz.underlying37 hy9
  obtain ⟨v, l, e11, hv, hl, hlen⟩ := one_bytes (by simp [hs]) hy10
  refine ⟨⟨k, p, nn, g, c, a, s, r, ok, om, hh, l⟩, v, ?_, ⟨hk, hp', hn, hg, hc, ha, hs', hr, hok, hom, hhh, hl⟩, hv, hlen⟩
  apply Array.ext_getElem?
  intro i
  have ee : ∀ i, cs[i]? = cs.toList[i]? := fun i => (Array.getElem?_toList (xs := cs)).symm
  rw [ee]
  match i with
  | 0 => exact e0
  | 1 => exact e1
  | 2 => exact e2
  | 3 => exact e3
  | 4 => exact e4
  | 5 => exact e5
  | 6 => exact e6
  | 7 => exact e7
  | 8 => exact sub_at e8
  | 9 => exact sub_at e9
  | 10 => exact e10
  | 11 => exact e11
  | i + 12 => rw [List.getElem?_eq_none (by simp [hs])]; rfl
theorem open_res {cs : Array Value} {d : DataW H} {p : List MemPlace} (hs : cs.size = 3) (h : DataW.Trod enc Tryz.prog w base spare held 40 (.agg cs) d p) : ∃ (x : Rs) (v : Value), cs = rsc x v ∧ x.Ok ∧ RB w v x.l ∧ (x.l.length : Int) ≤ 9223372036854775807 := by
  obtain ⟨fuel, hf⟩ := h
  have hcs : (Value.agg cs).cells.toList = cs.toList := rfl
  rw [hcs] at hf
  obtain ⟨n, hp⟩ := trod_parts Tryz.underlying40 hf
  obtain ⟨y0, hy0⟩ := trod_part hp 0 rfl 31 0 1 rfl rfl cells31
  obtain ⟨y1, hy1⟩ := trod_part hp 1 rfl 37 1 1 rfl rfl cells37
  obtain ⟨y2, hy2⟩ := trod_part hp 2 rfl 38 2 1 rfl rfl cells38
  obtain ⟨e, e0, he⟩ := one_i64 Tryz.underlying31 hy0
  obtain ⟨z, e1, hz⟩ := one_u64 Tryz.underlying37 hy1
  obtain ⟨v, l, e2, hv, hl, hlen⟩ := one_bytes (by simp [hs]) hy2
  refine ⟨⟨e, z, l⟩, v, ?_, ⟨he, hz, hl⟩, hv, hlen⟩
  apply Array.ext_getElem?
  intro i
  have ee : ∀ i, cs[i]? = cs.toList[i]? := fun i => (Array.getElem?_toList (xs := cs)).symm
  rw [ee]
  match i with
  | 0 => exact e0
  | 1 => exact e1
  | 2 => exact e2
  | i + 3 => rw [List.getElem?_eq_none (by simp [hs])]; rfl
end
/-- what the rows list -/
abbrev LL : List (String × DataW Unit) := [("unicode/utf8.acceptRanges", Rows.laid_unicode_utf8_acceptRanges), ("byre/calls.fields", Rows.laid_byre_calls_fields), ("unicode/utf8.first", Rows.laid_unicode_utf8_first)]
def flds : List (List Nat) := (List.range 22).map fld
theorem laid_flds {H : Type} : (Rows.laid_byre_calls_fields : DataW H) = .agg (flds.map fun l => .lit (.string (l.map UInt8.ofNat))) := by kernel_rfl
theorem fields_of {W : World} (h : laidMetH Tryz.prog LL W) : FW W := by
  rw [MakeChecks.laidMetH_plain _ _ _ (by kernel_rfl)] at h
  obtain ⟨ps, ⟨_, _, _, _, _, _, _, _, _, _, ⟨g, t, cs, fuel, p, q, hg, ht, hv, hd, _, _⟩, _⟩, _, _⟩ := h
  obtain rfl := Option.some.inj ((show Tryz.prog.globalNamed "byre/calls.fields" = some 0 by kernel_rfl).symm.trans hg)
  obtain rfl := Option.some.inj ((show (Tryz.prog.globals[0]?).map (·.type) = some 150 by kernel_rfl).symm.trans ht)
  obtain ⟨xs, m, _, ex, _, hl, hel⟩ := DataW.trod_array Tryz.underlying150 hd
  intro r hr
  have hE := hel r hr
  rw [cells9, Nat.mul_one, List.getElem?_eq_getElem (by omega)] at hE
  obtain ⟨z, e1, e2, _⟩ := DataW.trod_string Tryz.underlying9 hE
  have e3 : (xs.map (·.1)) = flds.map fun l => (.lit (.string (l.map UInt8.ofNat)) : DataW Unit) := by
    have := (Prod.mk.inj ex).1
    rw [laid_flds] at this
    exact (DataW.agg.inj this).symm
  have e4 : (xs.map (·.1))[r]? = (flds.map fun l => (.lit (.string (l.map UInt8.ofNat)) : DataW Unit))[r]? := by rw [e3]
  have hfl : flds.length = 22 := by simp [flds]
  rw [List.getElem?_map, List.getElem?_map, List.getElem?_eq_getElem (by omega : r < xs.length), List.getElem?_eq_getElem (by omega : r < flds.length), e2] at e4
  have hz : z.data.toList = (fld r).map UInt8.ofNat := by
    simp only [Option.map_some, Option.some.injEq, DataW.lit.injEq, Lit.string.injEq] at e4
    rw [e4]
    simp [flds]
  have hz2 : z = strB (fld r) := by
    unfold strB
    cases z
    simp only at hz
    rw [← hz]
  rw [World.var?_cell hg hv r, ← hz2]
  have : cs.toList[r]? = some (.string z) := by
    have h0 : ((cs.toList.drop r).take 1)[0]? = some (.string z) := by rw [e1]; rfl
    simpa using h0
  simpa using this
end Go.Proofs.YtfoleblcaloeoaaGreatDoor

/- What a law is handed: pairs of a call and an answer. -/
namespace Go.Proofs.YtfoleblcaloeoaaGreatDoor
open Go Go.RowKit Go.ChangeShapes Go.WideShapes Go.ChangeAt Go.Deep

theorem cellsTw : Tryz.prog.cellsOf 49 = 17 := by kernel_rfl
theorem cells4 : Tryz.prog.cellsOf 4 = 1 := by kernel_rfl
theorem trodAll_four {H : Type} {enc : TypeId × Value → H} {P : Program} {w : World} {base : Nat} {spare : Nat → Bool} {held : Bool} {t0 t1 t2 t3 : TypeId} {args : Array Value} {ds : List (DataW H)} {ps : List MemPlace} (h : DataW.TrodAll enc P w base spare held [t0, t1, t2, t3] args.toList ds ps) :
    ∃ v0 v1 v2 v3 d0 d1 d2 d3 p0 p1 p2 p3, args = #[v0, v1, v2, v3] ∧ ds = [d0, d1, d2, d3] ∧ ps = p0 ++ p1 ++ p2 ++ p3 ∧ DataW.Trod enc P w base spare held t0 v0 d0 p0 ∧ DataW.Trod enc P w base spare held t1 v1 d1 p1 ∧ DataW.Trod enc P w base spare held t2 v2 d2 p2 ∧ DataW.Trod enc P w base spare held t3 v3 d3 p3 := by
  obtain ⟨v0, vs0, d0, ds0, p0, q0, hargs, rfl, rfl, h0, k0⟩ := trodAll_cons h
  obtain ⟨v1, vs1, d1, ds1, p1, q1, rfl, rfl, rfl, h1, k1⟩ := trodAll_cons k0
  obtain ⟨v2, vs2, d2, ds2, p2, q2, rfl, rfl, rfl, h2, k2⟩ := trodAll_cons k1
  obtain ⟨v3, vs3, d3, ds3, p3, q3, rfl, rfl, rfl, h3, k3⟩ := trodAll_cons k2
  obtain ⟨rfl, rfl, rfl⟩ := trodAll_nil k3
  exact ⟨v0, v1, v2, v3, d0, d1, d2, d3, p0, p1, p2, p3, by cases args; simp_all, rfl, by simp, h0, h1, h2, h3⟩
theorem trodAll_five {H : Type} {enc : TypeId × Value → H} {P : Program} {w : World} {base : Nat} {spare : Nat → Bool} {held : Bool} {t0 t1 t2 t3 t4 : TypeId} {args : Array Value} {ds : List (DataW H)} {ps : List MemPlace} (h : DataW.TrodAll enc P w base spare held [t0, t1, t2, t3, t4] args.toList ds ps) :
    ∃ v0 v1 v2 v3 v4 d0 d1 d2 d3 d4 p0 p1 p2 p3 p4, args = #[v0, v1, v2, v3, v4] ∧ ds = [d0, d1, d2, d3, d4] ∧ ps = p0 ++ p1 ++ p2 ++ p3 ++ p4 ∧ DataW.Trod enc P w base spare held t0 v0 d0 p0 ∧ DataW.Trod enc P w base spare held t1 v1 d1 p1 ∧ DataW.Trod enc P w base spare held t2 v2 d2 p2 ∧ DataW.Trod enc P w base spare held t3 v3 d3 p3 ∧ DataW.Trod enc P w base spare held t4 v4 d4 p4 := by
  obtain ⟨v0, vs0, d0, ds0, p0, q0, hargs, rfl, rfl, h0, k0⟩ := trodAll_cons h
  obtain ⟨v1, vs1, d1, ds1, p1, q1, rfl, rfl, rfl, h1, k1⟩ := trodAll_cons k0
  obtain ⟨v2, vs2, d2, ds2, p2, q2, rfl, rfl, rfl, h2, k2⟩ := trodAll_cons k1
  obtain ⟨v3, vs3, d3, ds3, p3, q3, rfl, rfl, rfl, h3, k3⟩ := trodAll_cons k2
  obtain ⟨v4, vs4, d4, ds4, p4, q4, rfl, rfl, rfl, h4, k4⟩ := trodAll_cons k3
  obtain ⟨rfl, rfl, rfl⟩ := trodAll_nil k4
  exact ⟨v0, v1, v2, v3, v4, d0, d1, d2, d3, d4, p0, p1, p2, p3, p4, by cases args; simp_all, rfl, by simp, h0, h1, h2, h3, h4⟩
section
variable {H : Type} {enc : TypeId × Value → H} {w : World} {base : Nat} {spare : Nat → Bool} {held : Bool}
theorem open_two {fuel : Nat} {cs : List Value} {x : DataW H × List MemPlace} (hs : cs.length = 17) (h : DataW.trod enc Tryz.prog w base spare held fuel 49 cs = some x) : ∃ t : Tw, cs = twl t ∧ TwOk w t := by
  obtain ⟨n, hp⟩ := trod_parts Tryz.underlying49 h
  obtain ⟨y0, hy0⟩ := trod_part hp 0 rfl 47 0 12 rfl rfl cells47
  obtain ⟨y1, hy1⟩ := trod_part hp 1 rfl 40 12 3 rfl rfl cells40
  obtain ⟨y2, hy2⟩ := trod_part hp 2 rfl 4 15 1 rfl rfl cells4
  obtain ⟨y3, hy3⟩ := trod_part hp 3 rfl 37 16 1 rfl rfl cells37
  obtain ⟨x1, v1, e1, hx1, hv1, -⟩ := open_call (cs := ((cs.drop 0).take 12).toArray) (by simp [hs]) ⟨_, hy0⟩
  obtain ⟨x2, v2, e2, hx2, hv2, -⟩ := open_res (cs := ((cs.drop 12).take 3).toArray) (by simp [hs]) ⟨_, hy1⟩
  obtain ⟨b, e3, -⟩ := DataW.trod_bool Tryz.underlying4 hy2
  obtain ⟨hh, e4, hhh⟩ := one_u64 Tryz.underlying37 hy3
  refine ⟨⟨x1, v1, x2, v2, b, hh⟩, ?_, hx1, hx2, hv1, hv2, hhh⟩
  have e1' : cs.take 12 = (clc x1 v1).toList := by rw [← e1]; simp
  have e2' : (cs.drop 12).take 3 = (rsc x2 v2).toList := by rw [← e2]
  have e3' : cs[15]? = some (.bool b) := one_of e3
  show cs = (clc x1 v1).toList ++ ((rsc x2 v2).toList ++ [.bool b, .int .u64 hh])
  rw [← e1', ← e2']
  have h5 : cs.drop 15 = [.bool b, .int .u64 hh] := by
    refine List.ext_getElem? fun i => ?_
    rw [List.getElem?_drop]
    match i with
    | 0 => exact e3'
    | 1 => exact e4
    | i + 2 => rw [List.getElem?_eq_none (by omega)]; rfl
  rw [← h5]
  have h6 : (cs.drop 12).take 3 ++ cs.drop 15 = cs.drop 12 := by
    have := List.take_append_drop 3 (cs.drop 12)
    rw [List.drop_drop] at this
    exact this
  rw [h6, List.take_append_drop]
theorem open_twos {fuel : Nat} {v : Value} {x : DataW H × List MemPlace} (h : DataW.trod enc Tryz.prog w base spare held fuel 27 [v] = some x) : ∃ l : List Tw, RE twl 17 w v l ∧ (∀ t ∈ l, TwOk w t) ∧ (l.length : Int) ≤ 9223372036854775807 := by
  rcases open_slice Tryz.underlying27 h with ⟨hcs, _⟩ | ⟨a, len, cap, m, n, D, Pl, hcs, hb, hl, hm, hmm, hx, hi⟩
  · injection hcs with e
    subst e
    exact ⟨[], Rd.nil w 17 0 none, by simp, by simp⟩
  · injection hcs with e
    subst e
    have hml : len ≤ m := by rw [hmm]; split <;> omega
    have each : ∀ i, i < len → ∃ t : Tw, TwOk w t ∧ ∀ j u, (twl t)[j]? = some u → w.cell? ((a.add (i * 17)).add j) = some u := by
      intro i hil
      obtain ⟨cs', hc, ht'⟩ := hi i (by omega)
      rw [cellsTw] at hc
      obtain ⟨_, hcl, hat⟩ := World.cells?_some hc
      obtain ⟨o, ho, hr⟩ := open_two (by omega) ht'
      refine ⟨o, hr, fun j u hu => ?_⟩
      have hj : j < 17 := by
        have := (List.getElem?_eq_some_iff.1 hu).1
        rwa [twl_len] at this
      rw [hat j hj, ← ho] at *
      rw [← hu, List.getElem?_eq_getElem (by omega)]
    obtain ⟨l, hl1, hp⟩ := list_of each
    refine ⟨l, ⟨by rw [fc_length twl_len], some a, cap, by rw [hl1], by rw [hl1]; exact hl, fun hpos => ?_⟩, fun o ho => ?_, by rw [hl1]; unfold maxLen at hm; omega⟩
    · obtain ⟨g, off, rfl⟩ := plain_addr (by have := (hp 0 hpos).2 0 _ rfl; simpa using this)
      refine ⟨g, off, rfl, fun j u hu => ?_⟩
      have hj : j < l.length * 17 := by rw [← fc_length twl_len]; exact (List.getElem?_eq_some_iff.1 hu).1
      obtain ⟨q, r, rfl, hr⟩ : ∃ q r, j = q * 17 + r ∧ r < 17 := ⟨j / 17, j % 17, by omega, by omega⟩
      have hq : q < l.length := by omega
      rw [fc_get twl_len l q r hq hr] at hu
      have := (hp q hq).2 r u hu
      rw [Addr.add_lit, Addr.add_lit, Nat.add_assoc] at this
      exact this
    · obtain ⟨i, hi, rfl⟩ := List.getElem_of_mem ho
      exact (hp i hi).1
end
end Go.Proofs.YtfoleblcaloeoaaGreatDoor
