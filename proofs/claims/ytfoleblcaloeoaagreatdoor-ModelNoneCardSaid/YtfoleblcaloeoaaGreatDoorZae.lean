/- Texts merged for the claim: CaE, CaL, PoA, PoB. -/
import Derived.Test.YtfoleblcaloeoaaGreatDoorZad
import Derived.Test.YtfoleblcaloeoaaGreatDoorZab
import Derived.Lib.BytesEntry
import Derived.Lib.IndexLaws
import Derived.Lib.ConvBytes
/- May: may a call be? -/
namespace Go.Proofs.YtfoleblcaloeoaaGreatDoor
open Go Go.RowKit

theorem setF_l (x y : Cl) (f : Nat) : (setF x y f).l = if f = 98 then x.l else y.l := by
  unfold setF
  by_cases h : f = 98
  · subst h; rfl
  · rw [if_neg h]
    repeat' split
    all_goals first | rfl | exact absurd (by assumption) h
theorem part_rb {w : World} {x : Cl} {v : Value} (hv : RB w v x.l) : ∀ (F : List Nat) (y : Cl) (u : Value), RB w u y.l → RB w (F.foldl (setU v) u) (F.foldl (setF x) y).l := by
  intro F
  induction F with
  | nil => intro y u h; exact h
  | cons f F ih =>
    intro y u h
    refine ih _ _ ?_
    rw [setF_l]
    unfold setU
    split
    · exact hv
    · exact h
theorem bare_rb {w : World} {x : Cl} {v : Value} (hv : RB w v x.l) : RB w (bareU x v) (bareK x).l := part_rb hv (fld x.k) { zCl with k := x.k } zV (RE.nil ucl 1 w none 0)
theorem part_b8 {x : Cl} (hx : ∀ b ∈ x.l, b < 256) : ∀ (F : List Nat) (y : Cl), (∀ b ∈ y.l, b < 256) → ∀ b ∈ (F.foldl (setF x) y).l, b < 256 := by
  intro F
  induction F with
  | nil => intro y h; exact h
  | cons f F ih =>
    intro y h
    refine ih _ ?_
    rw [setF_l]
    split
    · exact hx
    · exact h
theorem bare_b8 {x : Cl} (hx : ∀ b ∈ x.l, b < 256) : ∀ b ∈ (bareK x).l, b < 256 := part_b8 hx (fld x.k) { zCl with k := x.k } (by intro b hb; cases hb)
/-- may a call be? -/
def mayK (x : Cl) : Bool := (fld x.k != []) && sameB x (bareK x) && decide (x.l.length ≤ 8)
theorem str_ne (F : List Nat) : ((strB F).toList == []) = (F == []) := by
  rw [strB_toList]
  cases F <;> rfl
set_option maxRecDepth 20000 in
set_option maxHeartbeats 8000000 in
theorem MayK_any {w : World} (hf : FW w) {x : Cl} {v : Value} (hx : x.Ok) (hv : RB w v x.l) :
    Calls Tryz.prog 56 #[.agg (clc x v)] w fun e w' => e = .returned (.bool (mayK x)) ∧ Chg [] w w' := by
  obtain ⟨A0, c0, rfl⟩ := RE.form hv
  have hb1 := Blk.new w 47 (clc x (.slice A0 x.l.length c0))
  have hc1 : Chg [] w (w.alloc (.cells (clc x (.slice A0 x.l.length c0)) 47)) := (Chg.refl [] w).alloc _
  obtain ⟨W2, hW2⟩ : ∃ W2, W2 = w.alloc (.cells (clc x (.slice A0 x.l.length c0)) 47) := ⟨_, rfl⟩
  rw [← hW2] at hb1 hc1
  have HB := hide (show KB W2 w.heap.size x (.slice A0 x.l.length c0) from hb1)
  have HC := hide hc1
  obtain ⟨c1, c2, c3, c4, c5, c6, c7, c8, c9, c10, c11, c12, cl, cf⟩ := KB.cells hb1
  have HOF := hide (fun W (h : Chg [] w W) => of_any (hf.stay h) hx.k)
  have HBR := hide (fun W (h : Chg [] w W) => bareK_any (hf.stay h) (x := x) (v := .slice A0 x.l.length c0) hx.k ⟨_, _, _, rfl⟩)
  have HSM := hide (fun W (h : Chg [] w W) => SameK_any (x := x) (y := bareK x) (hv.stay h) (bare_rb (hv.stay h)) hx.l (bare_b8 hx.l))
  have HW2 := hide hW2
  clear hb1 hc1 hW2 hf hv hx c2 c3 c4 c5 c6 c7 c8 c9 c10 c11 cf
  have hs := str_ne (fld x.k)
  by_cases h0 : fld x.k = []
  · have hm : mayK x = false := by unfold mayK; rw [h0]; rfl
    rw [hm]
    rw [h0] at hs HOF
    have e1 : ((strB []).toList == []) = true := hs
    have e2 : ((strB []).toList != []) = false := by rw [bne, e1]; rfl
    have e3 : (strB []).toList = [] := by rw [strB_toList]; rfl
    generalize strB [] = s at e1 e2 e3 HOF
    clear hm h0 hs HBR HSM
    go_enter Tryz.func56, Tryz.ntmps56
    go_wp2_with (first | (refine wpList_box34 rfl _ rfl rfl ?_; try rw [← HW2.out]))
    refine wp_region_t [0,1,3,0,0,5,1,6,3,0,0,0,1,0,0,0,0] [none, none, none, none, none, some (7, true), some (7, true), some (7, true), some (7, true), none, none, some (13, true), some (13, true), some (13, true), some (13, true), none, none] (fun W => KB W w.heap.size x (.slice A0 x.l.length c0)) (by kernel_rfl) (by kernel_rfl) (by kernel_rfl) ?_
    go_wp2_with (first | fail | (refine wpG_calc rfl (fun K hK => ?_)) | (refine wpG_skip ?_ ?_; (focus (simp [wantG]; done)); go_simp) | (refine wpG_take ?_ ?_; (focus (simp [wantG]; done))) | (refine wpG_pure (fun K hK => ?_); go_simp; refine hK _ _ ?_; clear hK K) | (refine wpG_deed (by decide) (fun K hK => ?_); go_simp) | (refine wpG_nil ?_))
    refine (HOF.out W2.drew HC.out.drew).mono ?_
    rintro e W3 ⟨rfl, rfl⟩
    refine hK _ _ ?_
    clear hK K
    go_wp2_with (first | fail | (refine wpG_calc rfl (fun K hK => ?_)) | (refine wpG_skip ?_ ?_; (focus (simp [wantG]; done)); go_simp) | (refine wpG_take ?_ ?_; (focus (simp [wantG]; done))) | (refine wpG_pure (fun K hK => ?_); go_simp; refine hK _ _ ?_; clear hK K) | (refine wpG_deed (by decide) (fun K hK => ?_); go_simp) | (refine wpG_nil ?_))
    go_ret
    exact ⟨rfl, HC.out.drew⟩
  · have e1 : ((strB (fld x.k)).toList == []) = false := by rw [hs]; exact beq_false_of_ne h0
    have e2 : ((strB (fld x.k)).toList != []) = true := by rw [bne, e1]; rfl
    have e3 : ¬ (strB (fld x.k)).toList = [] := by simpa using e1
    have hm : mayK x = (sameB x (bareK x) && decide (x.l.length ≤ 8)) := by
      unfold mayK
      rw [show (fld x.k != []) = true from bne_iff_ne.2 h0, Bool.true_and]
    rw [hm]
    clear hm h0 hs
    generalize strB (fld x.k) = s at e1 e2 e3 HOF
    obtain ⟨y, hy⟩ : ∃ y, sameB x (bareK x) = y := ⟨_, rfl⟩
    rw [hy] at HSM ⊢
    clear hy
    generalize bareK x = z at HBR HSM
    generalize bareU x (.slice A0 x.l.length c0) = u at HBR HSM
    have d1 : ((x.l.length : Int) ≤ 8) = (x.l.length ≤ 8) := by simp; omega
    cases y with
    | false =>
      rw [Bool.false_and]
      go_enter Tryz.func56, Tryz.ntmps56
      go_wp2_with (first | (refine wpList_box34 rfl _ rfl rfl ?_; try rw [← HW2.out]))
      refine wp_region_t [0,1,3,0,0,5,5,6,3,0,0,0,1,0,0,0,0] [none, none, none, none, none, some (7, true), some (7, true), some (7, true), some (7, true), none, none, some (13, true), some (13, true), some (13, true), some (13, true), none, none] (fun W => KB W w.heap.size x (.slice A0 x.l.length c0)) (by kernel_rfl) (by kernel_rfl) (by kernel_rfl) ?_
      go_wp2_with (first | fail | (refine wpG_calc rfl (fun K hK => ?_)) | (refine wpG_skip ?_ ?_; (focus (simp [wantG]; done)); go_simp) | (refine wpG_take ?_ ?_; (focus (simp [wantG]; done))) | (refine wpG_pure (fun K hK => ?_); go_simp; refine hK _ _ ?_; clear hK K) | (refine wpG_deed (by decide) (fun K hK => ?_); go_simp) | (refine wpG_nil ?_))
      refine (HOF.out W2.drew HC.out.drew).mono ?_
      rintro e W3 ⟨rfl, rfl⟩
      refine hK _ _ ?_
      clear hK K
      have hS : KB W2.drew w.heap.size x (.slice A0 x.l.length c0) := HB.out.drew
      go_wp2_with (first | (refine wpG_hload 47 _ rfl rfl (fun w' hw' => KB.load hw') hS ?_) | (refine wpG_calc rfl (fun K hK => ?_)) | (refine wpG_skip ?_ ?_; (focus (simp [wantG]; done)); go_simp) | (refine wpG_take ?_ ?_; (focus (simp [wantG]; done))) | (refine wpG_pure (fun K hK => ?_); go_simp; refine hK _ _ ?_; clear hK K) | (refine wpG_deed (by decide) (fun K hK => ?_); go_simp) | (refine wpG_nil ?_))
      (refine wpG_keeps hS (fun K hK => ?_))
      go_simp
      refine (HBR.out W2.drew HC.out.drew).mono ?_
      rintro e W3 ⟨rfl, hc3⟩
      have HC3 := hide (HC.out.drew.stay hc3)
      have hS3 : KB W3 w.heap.size x (.slice A0 x.l.length c0) := KB.stay hS hc3
      refine hK _ _ hS3 ?_
      clear hK K hS
      have HS3 := hide hS3
      clear hS3
      go_wp2_with (first | fail | (refine wpG_calc rfl (fun K hK => ?_)) | (refine wpG_skip ?_ ?_; (focus (simp [wantG]; done)); go_simp) | (refine wpG_take ?_ ?_; (focus (simp [wantG]; done))) | (refine wpG_pure (fun K hK => ?_); go_simp; refine hK _ _ ?_; clear hK K) | (refine wpG_deed (by decide) (fun K hK => ?_); go_simp) | (refine wpG_nil ?_))
      refine (HSM.out _ HC3.out).mono ?_
      rintro e W4 ⟨rfl, hc4⟩
      refine hK _ _ ?_
      clear hK K
      obtain ⟨-, -, -, -, -, -, -, -, -, -, -, q12, ql, -⟩ := KB.cells (KB.stay HS3.out hc4)
      have HC4 := hide (HC3.out.stay hc4)
      clear hc3 hc4
      go_wp2_with (first | fail | (refine wpG_calc rfl (fun K hK => ?_)) | (refine wpG_skip ?_ ?_; (focus (simp [wantG]; done)); go_simp) | (refine wpG_take ?_ ?_; (focus (simp [wantG]; done))) | (refine wpG_pure (fun K hK => ?_); go_simp; refine hK _ _ ?_; clear hK K) | (refine wpG_deed (by decide) (fun K hK => ?_); go_simp) | (refine wpG_nil ?_))
      go_ret
      exact ⟨rfl, HC4.out⟩
    | true =>
      rw [Bool.true_and]
      go_enter Tryz.func56, Tryz.ntmps56
      go_wp2_with (first | (refine wpList_box34 rfl _ rfl rfl ?_; try rw [← HW2.out]))
      refine wp_region_t [0,1,3,0,0,5,5,6,3,0,0,0,1,0,0,0,0] [none, none, none, none, none, some (7, true), some (7, true), some (7, true), some (7, true), none, none, some (13, true), some (13, true), some (13, true), some (13, true), none, none] (fun W => KB W w.heap.size x (.slice A0 x.l.length c0)) (by kernel_rfl) (by kernel_rfl) (by kernel_rfl) ?_
      go_wp2_with (first | fail | (refine wpG_calc rfl (fun K hK => ?_)) | (refine wpG_skip ?_ ?_; (focus (simp [wantG]; done)); go_simp) | (refine wpG_take ?_ ?_; (focus (simp [wantG]; done))) | (refine wpG_pure (fun K hK => ?_); go_simp; refine hK _ _ ?_; clear hK K) | (refine wpG_deed (by decide) (fun K hK => ?_); go_simp) | (refine wpG_nil ?_))
      refine (HOF.out W2.drew HC.out.drew).mono ?_
      rintro e W3 ⟨rfl, rfl⟩
      refine hK _ _ ?_
      clear hK K
      have hS : KB W2.drew w.heap.size x (.slice A0 x.l.length c0) := HB.out.drew
      go_wp2_with (first | (refine wpG_hload 47 _ rfl rfl (fun w' hw' => KB.load hw') hS ?_) | (refine wpG_calc rfl (fun K hK => ?_)) | (refine wpG_skip ?_ ?_; (focus (simp [wantG]; done)); go_simp) | (refine wpG_take ?_ ?_; (focus (simp [wantG]; done))) | (refine wpG_pure (fun K hK => ?_); go_simp; refine hK _ _ ?_; clear hK K) | (refine wpG_deed (by decide) (fun K hK => ?_); go_simp) | (refine wpG_nil ?_))
      (refine wpG_keeps hS (fun K hK => ?_))
      go_simp
      refine (HBR.out W2.drew HC.out.drew).mono ?_
      rintro e W3 ⟨rfl, hc3⟩
      have HC3 := hide (HC.out.drew.stay hc3)
      have hS3 : KB W3 w.heap.size x (.slice A0 x.l.length c0) := KB.stay hS hc3
      refine hK _ _ hS3 ?_
      clear hK K hS
      have HS3 := hide hS3
      clear hS3
      go_wp2_with (first | fail | (refine wpG_calc rfl (fun K hK => ?_)) | (refine wpG_skip ?_ ?_; (focus (simp [wantG]; done)); go_simp) | (refine wpG_take ?_ ?_; (focus (simp [wantG]; done))) | (refine wpG_pure (fun K hK => ?_); go_simp; refine hK _ _ ?_; clear hK K) | (refine wpG_deed (by decide) (fun K hK => ?_); go_simp) | (refine wpG_nil ?_))
      refine (HSM.out _ HC3.out).mono ?_
      rintro e W4 ⟨rfl, hc4⟩
      refine hK _ _ ?_
      clear hK K
      obtain ⟨-, -, -, -, -, -, -, -, -, -, -, q12, ql, -⟩ := KB.cells (KB.stay HS3.out hc4)
      have HC4 := hide (HC3.out.stay hc4)
      clear hc3 hc4
      go_wp2_with (first | fail | (refine wpG_calc rfl (fun K hK => ?_)) | (refine wpG_skip ?_ ?_; (focus (simp [wantG]; done)); go_simp) | (refine wpG_take ?_ ?_; (focus (simp [wantG]; done))) | (refine wpG_pure (fun K hK => ?_); go_simp; refine hK _ _ ?_; clear hK K) | (refine wpG_deed (by decide) (fun K hK => ?_); go_simp) | (refine wpG_nil ?_))
      go_ret
      exact ⟨by simp, HC4.out⟩
end Go.Proofs.YtfoleblcaloeoaaGreatDoor

/- A kind has a field: bytes.ContainsRune, has; within, access. -/
namespace Go.Proofs.YtfoleblcaloeoaaGreatDoor
open Go Go.RowKit

def ints (l : List Nat) : List Int := l.map fun n : Nat => (n : Int)
theorem index_mem {l : List Nat} (h8 : ∀ b ∈ l, b < 256) {f : Nat} (hf : f < 256) : 0 ≤ Lib.indexByte (Lib.bytesOf (ints l)) (UInt8.ofNat f) ↔ f ∈ l := by
  induction l with
  | nil => simp [Lib.bytesOf, Lib.indexByte, ints]
  | cons b l ih =>
    have ihl := ih (fun b hb => h8 b (List.mem_cons_of_mem _ hb))
    have hb := h8 b (List.mem_cons_self ..)
    have hge := Lib.indexByte_ge (Lib.bytesOf (ints l)) (UInt8.ofNat f)
    have he : Lib.bytesOf (ints (b :: l)) = UInt8.ofNat b :: Lib.bytesOf (ints l) := by simp [Lib.bytesOf, ints]
    rw [he]
    have hbf : (UInt8.ofNat b == UInt8.ofNat f) = decide (b = f) := by
      by_cases h : b = f
      · subst h; simp
      · rw [decide_eq_false h]
        refine beq_false_of_ne fun e => h ?_
        have := congrArg UInt8.toNat e
        simpa [Nat.mod_eq_of_lt hb, Nat.mod_eq_of_lt hf] using this
    unfold Lib.indexByte
    rw [hbf]
    by_cases h : b = f
    · subst h; simp
    · have hne : ¬ f = b := fun e => h e.symm
      simp only [h, decide_false, List.mem_cons, hne, false_or, ← ihl]
      generalize Lib.indexByte (Lib.bytesOf (ints l)) (UInt8.ofNat f) = z at hge ⊢
      by_cases hz : z = -1
      · subst hz; simp
      · have : (z == -1) = false := beq_false_of_ne hz
        simp [this]
        omega
set_option maxRecDepth 100000 in
set_option maxHeartbeats 4000000 in
theorem IndexByte_any {w : World} {v : Value} {l : List Nat} (hv : RB w v l) (h8 : ∀ b ∈ l, b < 256) (h0 : 0 < l.length) {f : Nat} (hf : f < 256) :
    Calls Tryz.prog 114 #[v, .int .u8 f] w fun e w' => (∃ z : Int, e = .returned (.int .i64 z) ∧ (0 ≤ z ↔ f ∈ l)) ∧ w = w' := by
  have hrun : ∃ z : Int, (Extern.BytealgIndexByte.indexByte #[v, .int .u8 f]).run Tryz.prog w = .ok (.int .i64 z) w ∧ (0 ≤ z ↔ f ∈ l) := by
    obtain ⟨A, c, rfl⟩ := RE.form hv
    obtain ⟨g, off, rfl⟩ := RE.addr hv h0
    refine ⟨_, Lib.run_indexByteSlice w g off l.length c (ints l) (by simp [ints]) (fun i hi => ?_) f, ?_⟩
    · have q := RE.cell ucl_len hv hi (j := 0) (by omega) rfl
      rw [Nat.mul_one, Nat.add_zero] at q
      rw [q]
      simp [ints, List.getD, List.getElem?_eq_getElem hi]
    · have := index_mem h8 hf
      simpa using this
  obtain ⟨z, hz, hi⟩ := hrun
  have HI := hide hi
  have hcall : ∀ args, (callFunc 135 args).run Tryz.prog w = ((Extern.BytealgIndexByte.indexByte args).run Tryz.prog w).andThen fun v w' => .ok (.value v) w' := fun args =>
    run_callFunc_extern Tryz.func135 (by kernel_rfl) (by kernel_rfl) (by kernel_rfl) (e := Extern.BytealgIndexByte.indexByte) (by kernel_rfl) args w
  clear hv h8 hi h0
  go_enter Tryz.func114, Tryz.ntmps114
  go_wp2_with fail
  go_ret
  exact ⟨⟨z, rfl, HI.out⟩, rfl⟩
set_option maxRecDepth 100000 in
set_option maxHeartbeats 4000000 in
theorem IndexRune_any {w : World} {v : Value} {l : List Nat} (hv : RB w v l) (h8 : ∀ b ∈ l, b < 256) (h0 : 0 < l.length) {f : Nat} (hf : f < 128) :
    Calls Tryz.prog 88 #[v, .int .i32 f] w fun e w' => (∃ z : Int, e = .returned (.int .i64 z) ∧ (0 ≤ z ↔ f ∈ l)) ∧ w = w' := by
  have HB := hide (IndexByte_any hv h8 h0 (f := f) (by omega))
  have f0 : (0 : Int) ≤ (f : Int) := by omega
  have f1 : (f : Int) < 128 := by omega
  have hw : IntKind.u8.wrap (f : Int) = (f : Int) := by rw [IntKind.wrap_u8]; omega
  clear hv h8 h0
  go_enter Tryz.func88, Tryz.ntmps88
  go_wp2_with fail
  refine HB.out.mono ?_
  rintro e W ⟨⟨z, rfl, hz⟩, rfl⟩
  have HZ := hide hz
  clear hz
  go_wp2_with fail
  go_ret
  exact ⟨⟨z, rfl, HZ.out⟩, rfl⟩
theorem ContainsRune_any {w : World} {v : Value} {l : List Nat} (hv : RB w v l) (h8 : ∀ b ∈ l, b < 256) (h0 : 0 < l.length) {f : Nat} (hf : f < 128) :
    Calls Tryz.prog 59 #[v, .int .i32 f] w fun e w' => e = .returned (.bool (l.contains f)) ∧ w = w' := by
  have HB := hide (IndexRune_any hv h8 h0 hf)
  clear hv h8 h0 hf
  go_enter Tryz.func59, Tryz.ntmps59
  go_wp2_with fail
  refine HB.out.mono ?_
  rintro e W ⟨⟨z, rfl, hz⟩, rfl⟩
  have HZ := hide hz
  clear hz
  go_wp2_with fail
  go_ret
  refine ⟨?_, rfl⟩
  have : decide (0 ≤ z) = l.contains f := by
    rw [Bool.eq_iff_iff]
    simpa using HZ.out
  simp [this]
/-- bytes of a string -/
theorem conv_bytes (w : World) (F : List Nat) (h8 : ∀ b ∈ F, b < 256) : ∃ c w', (convert 9 38 (.string (strB F))).run Tryz.prog w = .ok (.slice (some ⟨w.heap.size, 0, none⟩) F.length c) w' ∧ RB w' (.slice (some ⟨w.heap.size, 0, none⟩) F.length c) F ∧ Chg [] w w' := by
  have h := Lib.run_convert_string_bytes (P := Tryz.prog) w 9 38 5 (strB F) Tryz.underlying9 Tryz.underlying38 Tryz.underlying5
  rw [strB_size] at h
  refine ⟨_, _, h, ⟨by rw [fc_length ucl_len], _, _, rfl, grownCap_ge _ _ _ _, fun _ => ⟨_, _, rfl, fun j u hu => ?_⟩⟩, ?_⟩
  · have hj : j < F.length := by
      have h1 := (List.getElem?_eq_some_iff.1 hu).1
      rw [fc_length ucl_len] at h1
      omega
    have hg := fc_get ucl_len F j 0 hj (by omega)
    rw [Nat.mul_one, Nat.add_zero, hu] at hg
    have hc := Lib.bytesWorld_cell w 5 (strB F) j (by rw [strB_size]; exact hj)
    rw [Nat.zero_add, hc, hg]
    have h2 := h8 _ (List.getElem_mem hj)
    simp [ucl, strB, List.getD, List.getElem?_eq_getElem hj, Nat.mod_eq_of_lt h2]
  · refine ⟨?_, ?_, ?_, by rw [Lib.bytesWorld_size]; omega, fun k hk _ => Lib.bytesWorld_at_old w 5 (strB F) k hk⟩
    all_goals simp [Lib.bytesWorld, World.freeze, World.alloc, World.drew, -World.alloc_eq, -World.drew_eq]
set_option maxRecDepth 100000 in
set_option maxHeartbeats 4000000 in
theorem hasK_any {w : World} {b5 : Nat} {F : List Nat} (hb : Blk w b5 9 #[.string (strB F)]) (h0 : 0 < F.length) (h8 : ∀ b ∈ F, b < 256) {f : Nat} (hf : f < 128) :
    Calls Tryz.prog 58 #[.int .i32 f, .pointer (some ⟨b5, 0, none⟩)] w fun e w' => e = .returned (.bool (F.contains f)) ∧ Chg [] w w' := by
  have q0 := hb.cell 0
  simp at q0
  have ql := hb.lt
  obtain ⟨c, w1, hcv, hr, hc⟩ := conv_bytes w F h8
  have HB := hide (ContainsRune_any hr h8 h0 hf)
  have HC := hide hc
  clear hb hr hc h8 h0 hf
  go_enter Tryz.func58, Tryz.ntmps58
  go_wp2_with fail
  refine HB.out.mono ?_
  rintro e W ⟨rfl, rfl⟩
  go_wp2_with fail
  go_ret
  exact ⟨by simp, HC.out⟩
/-! ## within, access -/
theorem withinK_any (n a b : Int) (w : World) : Calls Tryz.prog 60 #[.int .i64 n, .int .i64 a, .int .i64 b] w fun e w' => e = .returned (.bool (decide (a ≤ n ∧ n ≤ b))) ∧ w = w' := by
  by_cases h1 : a ≤ n
  · by_cases h2 : n ≤ b
    · rw [decide_eq_true ⟨h1, h2⟩]
      have d1 : decide (a ≤ n) = true := decide_eq_true h1
      have d2 : decide (n ≤ b) = true := decide_eq_true h2
      go_enter Tryz.func60, Tryz.ntmps60
      go_wp2_with fail
      go_ret
      exact ⟨rfl, rfl⟩
    · rw [decide_eq_false (fun h => h2 h.2)]
      have d1 : decide (a ≤ n) = true := decide_eq_true h1
      have d2 : decide (n ≤ b) = false := decide_eq_false h2
      go_enter Tryz.func60, Tryz.ntmps60
      go_wp2_with fail
      go_ret
      exact ⟨rfl, rfl⟩
  · rw [decide_eq_false (fun h => h1 h.1)]
    have d1 : decide (a ≤ n) = false := decide_eq_false h1
    go_enter Tryz.func60, Tryz.ntmps60
    go_wp2_with fail
    go_ret
    exact ⟨rfl, rfl⟩
theorem accessK_any (addr size of : Int) (h0 : 0 ≤ of) (h1 : of ≤ 1000000) (w : World) : Calls Tryz.prog 62 #[.int .i64 addr, .int .i64 size, .int .i64 of] w fun e w' => e = .returned (.bool (decide ((1 ≤ size ∧ size ≤ 8) ∧ 0 ≤ addr ∧ addr ≤ of - size))) ∧ w = w' := by
  have HA := hide (fun W => withinK_any size 1 8 W)
  have HB := hide (fun W => withinK_any addr 0 (of - size) W)
  by_cases hs : 1 ≤ size ∧ size ≤ 8
  · rw [decide_eq_true hs] at HA
    have hd : decide ((1 ≤ size ∧ size ≤ 8) ∧ 0 ≤ addr ∧ addr ≤ of - size) = decide (0 ≤ addr ∧ addr ≤ of - size) := by simp [hs]
    rw [hd]
    obtain ⟨s1, s2⟩ := hs
    have hw : wrap64 (of - size) = of - size := by unfold wrap64; omega
    generalize decide (0 ≤ addr ∧ addr ≤ of - size) = r at HB ⊢
    clear hd
    go_enter Tryz.func62, Tryz.ntmps62
    go_wp2_with fail
    refine (HA.out _).mono ?_
    rintro e W ⟨rfl, rfl⟩
    go_wp2_with fail
    refine (HB.out _).mono ?_
    rintro e W ⟨rfl, rfl⟩
    go_wp2_with fail
    go_ret
    exact ⟨rfl, rfl⟩
  · rw [decide_eq_false hs] at HA
    rw [decide_eq_false (fun h => hs h.1)]
    clear hs
    go_enter Tryz.func62, Tryz.ntmps62
    go_wp2_with fail
    refine (HA.out _).mono ?_
    rintro e W ⟨rfl, rfl⟩
    go_wp2_with fail
    go_ret
    exact ⟨rfl, rfl⟩
end Go.Proofs.YtfoleblcaloeoaaGreatDoor

/- Policies: the bits of a mask. -/
namespace Go.Proofs.YtfoleblcaloeoaaGreatDoor
open Go Go.RowKit

/-- is the node k one of the mask m? -/
def hasZ (m : Nat) (k : Int) : Bool := decide (0 ≤ k ∧ k < 8 ∧ m / 2 ^ k.toNat % 2 = 1)
set_option maxRecDepth 100000 in
theorem and_one : ∀ x : Fin 256, bits BinOp.and .u8 (x.1 : Int) 1 = ((x.1 % 2 : Nat) : Int) := by decide
theorem and_shr {m : Nat} (hm : m < 256) (v : Nat) : (bits BinOp.and .u8 ((m : Int) / 2 ^ v) 1 == 1) = decide (m / 2 ^ v % 2 = 1) := by
  have h1 : m / 2 ^ v < 256 := Nat.lt_of_le_of_lt (Nat.div_le_self _ _) hm
  have h2 : ((m : Int) / 2 ^ v) = ((m / 2 ^ v : Nat) : Int) := by push_cast; rfl
  rw [h2, and_one ⟨_, h1⟩, Bool.eq_iff_iff]
  simp
  omega
/-- how many nodes a mask has; one more than the highest; the lowest -/
def ones (m : Nat) : Nat := m % 2 + m / 2 % 2 + m / 4 % 2 + m / 8 % 2 + m / 16 % 2 + m / 32 % 2 + m / 64 % 2 + m / 128 % 2
def len8 (m : Nat) : Nat := if m = 0 then 0 else if m < 2 then 1 else if m < 4 then 2 else if m < 8 then 3 else if m < 16 then 4 else if m < 32 then 5 else if m < 64 then 6 else if m < 128 then 7 else 8
def low8 (m : Nat) : Nat := if m = 0 then 8 else if m % 2 = 1 then 0 else if m / 2 % 2 = 1 then 1 else if m / 4 % 2 = 1 then 2 else if m / 8 % 2 = 1 then 3 else if m / 16 % 2 = 1 then 4 else if m / 32 % 2 = 1 then 5 else if m / 64 % 2 = 1 then 6 else 7
theorem run_tab {S : ByteArray} {f : Nat → Nat} (hS : ∀ i : Fin 256, (S[i.1]?).map (·.toNat) = some (f i.1)) {m : Nat} (hm : m < 256) (w : World) : (Instr.index 9 (.string S) (.int .u8 m)).run Tryz.prog w = .ok (.int .u8 (f m : Nat)) w := by
  have h := hS ⟨m, hm⟩
  cases hq : S[m]? with
  | none => simp [hq] at h
  | some b =>
    simp [hq] at h
    simp [Instr.index, run_underlying Tryz.underlying9, asIntOf, hq, h]
theorem wpList_tab {ops : Array Oper} {rest : List Oper} {o : Oper} {a : Act} {w : World} {Q : Exit → Act → World → Prop} {S : ByteArray} {m : Nat} (f : Nat → Nat) (hm : m < 256) (hg : o.guard = none) (x : Operand) (ho : o.op = .index 9 (.const (.string S)) x)
    (hx : a.eval x = .int .u8 m) (hS : ∀ i : Fin 256, (S[i.1]?).map (·.toNat) = some (f i.1)) (h : wpList Tryz.prog ops Q rest (a.put o.dst (.int .u8 (f m : Nat))) w) : wpList Tryz.prog ops Q (o :: rest) a w :=
  have hc : a.eval (.const (.string S)) = .string S := rfl
  Great.wpList_runTo hg _ rfl _ _ (by unfold execOp; simp only [ho, hx, hc, Sem.run_bind, run_tab hS hm, Sem.run_pure, Result.andThen_ok]) h
set_option maxRecDepth 20000 in
theorem ones_any {m : Nat} (hm : m < 256) (w : World) : Calls Tryz.prog 90 #[.int .u8 m] w fun e w' => e = .returned (.int .i64 (ones m : Nat)) ∧ w = w' := by
  have m1 : (0 : Int) ≤ (m : Int) := by omega
  have m2 : (m : Int) < 256 := by omega
  have h8 : ones m ≤ 8 := by unfold ones; first | omega | ((repeat' split) <;> omega)
  have o1 : (ones m : Int) ≤ 8 := by omega
  generalize hx : ones m = x at h8 o1 ⊢
  have HX := hide hx
  clear hx
  go_enter Tryz.func90, Tryz.ntmps90
  go_wp2_with (first | (refine wpList_tab ones hm rfl _ rfl rfl ?_ ?_; (focus (decide +kernel)); rw [HX.out]))
  go_ret
  exact ⟨rfl, rfl⟩
set_option maxRecDepth 20000 in
theorem len8_any {m : Nat} (hm : m < 256) (w : World) : Calls Tryz.prog 89 #[.int .u8 m] w fun e w' => e = .returned (.int .i64 (len8 m : Nat)) ∧ w = w' := by
  have m1 : (0 : Int) ≤ (m : Int) := by omega
  have m2 : (m : Int) < 256 := by omega
  have h8 : len8 m ≤ 8 := by unfold len8; first | omega | ((repeat' split) <;> omega)
  have o1 : (len8 m : Int) ≤ 8 := by omega
  generalize hx : len8 m = x at h8 o1 ⊢
  have HX := hide hx
  clear hx
  go_enter Tryz.func89, Tryz.ntmps89
  go_wp2_with (first | (refine wpList_tab len8 hm rfl _ rfl rfl ?_ ?_; (focus (decide +kernel)); rw [HX.out]))
  go_ret
  exact ⟨rfl, rfl⟩
end Go.Proofs.YtfoleblcaloeoaaGreatDoor

/- Policies: which may be. -/
namespace Go.Proofs.YtfoleblcaloeoaaGreatDoor
open Go Go.RowKit

def onesTo (m : Nat) : Nat → Nat
  | 0 => 0
  | k + 1 => onesTo m k + if hasZ m k then 1 else 0
set_option maxRecDepth 100000 in
theorem onesTo_all : ∀ m : Fin 256, onesTo m.1 8 = ones m.1 := by decide +kernel
set_option maxRecDepth 100000 in
theorem len8_all : ∀ m : Fin 256, ∀ n : Fin 9, (∀ k : Fin 8, hasZ m.1 (k.1 : Nat) = true → k.1 < n.1) ↔ len8 m.1 ≤ n.1 := by decide +kernel
theorem len8_iff {m n : Nat} (hm : m < 256) (hn : n ≤ 8) : len8 m ≤ n ↔ ∀ k : Nat, k < 8 → hasZ m k = true → k < n := by
  rw [← len8_all ⟨m, hm⟩ ⟨n, by omega⟩]
  exact ⟨fun h k hk => h ⟨k, hk⟩, fun h k => h k.1 k.2⟩
theorem onesTo_le (m : Nat) : ∀ k, onesTo m k ≤ k
  | 0 => Nat.le_refl _
  | k + 1 => by have := onesTo_le m k; unfold onesTo; split <;> omega
/-- a kind, and how many nodes its mask may have -/
def kindZ (kind o : Nat) : Bool := decide (kind = 0 ∧ o = 0 ∨ kind = 1 ∧ o = 1 ∨ (kind = 2 ∨ kind = 3) ∧ 0 < o)
noncomputable def polB (c : Cf) (kind m : Nat) : Bool := mayB c && (decide ((len8 m : Int) ≤ c 0) && kindZ kind (ones m))
theorem CB.stay_ {w w' : World} {b : Nat} {c : Cf} (h : CB w b c) (hc : Chg [] w w') : CB w' b c := Blk.chg h hc List.not_mem_nil
theorem load_u8 {w : World} {a : Addr} {x : Int} (h : w.cell? a = some (.int .u8 x)) : (loadVar 5 a).run Tryz.prog w = .ok (.int .u8 x) w := load_int Tryz.underlying5 h
set_option maxRecDepth 20000 in
set_option maxHeartbeats 4000000 in
theorem pmay_any (c : Cf) {kind m : Nat} (hk : kind < 256) (hm : m < 256) (w : World) : Calls Tryz.prog 61 #[.agg (cg c), .agg #[.int .u8 kind, .int .u8 m]] w fun e w' => e = .returned (.bool (polB c kind m)) ∧ Chg [] w w' := by
  have HB : Hid (CB ((w.alloc (.cells (cg c) 26)).alloc (.cells #[.int .u8 kind, .int .u8 m] 45)) w.heap.size c) := hide ((Blk.new w 26 (cg c)).alloc _)
  have HP : Hid (Blk ((w.alloc (.cells (cg c) 26)).alloc (.cells #[.int .u8 kind, .int .u8 m] 45)) (w.heap.size + 1) 45 #[.int .u8 kind, .int .u8 m]) := hide (by
    have := Blk.new (w.alloc (.cells (cg c) 26)) 45 #[.int .u8 kind, .int .u8 m]
    rwa [World.size_alloc] at this)
  have HC : Hid (Chg [] w ((w.alloc (.cells (cg c) 26)).alloc (.cells #[.int .u8 kind, .int .u8 m] 45))) := hide (((Chg.refl [] w).alloc _).alloc _)
  obtain ⟨r, hr⟩ : ∃ r, r = polB c kind m := ⟨_, rfl⟩
  rw [← hr]
  have HR := hide hr
  clear hr
  obtain ⟨x, hx⟩ : ∃ x, mayB c = x := ⟨_, rfl⟩
  have H18 := hide (fun W => May_any c W)
  rw [hx] at H18
  have HX := hide hx
  clear hx
  have H35 := hide (fun W => len8_any hm W)
  have H36 := hide (fun W => ones_any hm W)
  cases x with
  | false =>
    obtain rfl : r = false := by rw [HR.out, polB, HX.out]; rfl
    go_enter Tryz.func61, Tryz.ntmps61
    go_wp2_with (first | (refine wpList_box26 rfl _ rfl rfl ?_))
    have hS : CB ((w.alloc (.cells (cg c) 26)).alloc (.cells #[.int .u8 kind, .int .u8 m] 45)).drew w.heap.size c ∧ Blk ((w.alloc (.cells (cg c) 26)).alloc (.cells #[.int .u8 kind, .int .u8 m] 45)).drew (w.heap.size + 1) 45 #[.int .u8 kind, .int .u8 m] := ⟨HB.out, HP.out⟩
    have HCd := hide HC.out.drew
    refine wp_region_t [5, 6, 0, 0, 0, 5, 6, 0, 5, 0, 0] [none, none, none, none, some (9, false), some (9, false), some (9, false), some (9, false), some (9, false), some (9, false), none] (fun W => CB W w.heap.size c ∧ Blk W (w.heap.size + 1) 45 #[.int .u8 kind, .int .u8 m]) (by kernel_rfl) (by kernel_rfl) (by kernel_rfl) ?_
    go_wp2_with (first | (refine wpG_hload 26 _ rfl rfl (fun w' hw' => load26 hw'.1) hS ?_) | (refine wpG_calc rfl (fun K hK => ?_)) | (refine wpG_skip ?_ ?_; (focus (simp [wantG]; done)); go_simp) | (refine wpG_take ?_ ?_; (focus (simp [wantG]; done))) | (refine wpG_pure (fun K hK => ?_); go_simp; refine hK _ _ ?_; clear hK K) | (refine wpG_deed (by decide) (fun K hK => ?_); go_simp) | (refine wpG_nil ?_))
    (refine wpG_keeps hS (fun K hK => ?_))
    go_simp
    refine (H18.out _).mono ?_
    rintro e W2 ⟨rfl, hc2⟩
    have hS2 : CB W2 w.heap.size c ∧ Blk W2 (w.heap.size + 1) 45 #[.int .u8 kind, .int .u8 m] := ⟨CB.stay_ hS.1 hc2, hS.2.chg hc2 List.not_mem_nil⟩
    refine hK _ _ hS2 ?_
    clear hK K
    have HC2 := hide (HCd.out.stay hc2)
    clear hS hc2 HCd
    go_wp2_with (first | fail | (refine wpG_calc rfl (fun K hK => ?_)) | (refine wpG_skip ?_ ?_; (focus (simp [wantG]; done)); go_simp) | (refine wpG_take ?_ ?_; (focus (simp [wantG]; done))) | (refine wpG_pure (fun K hK => ?_); go_simp; refine hK _ _ ?_; clear hK K) | (refine wpG_deed (by decide) (fun K hK => ?_); go_simp) | (refine wpG_nil ?_))
    go_ret
    exact ⟨rfl, HC2.out⟩
  | true =>
    have hM := mayB_iff.1 HX.out
    obtain ⟨n, hn⟩ : ∃ n : Nat, c 0 = n := ⟨(c 0).toNat, by have := hM.n1; omega⟩
    have hn8 : n ≤ 8 := by have := hM.n8; omega
    have hl8 : len8 m ≤ 8 := by unfold len8; ((repeat' split) <;> omega)
    have HN := hide hn
    have hrr : r = (decide (len8 m ≤ n) && kindZ kind (ones m)) := by
      rw [HR.out, polB, HX.out, hn, Bool.true_and]
      congr 1
      simp
    have HRR := hide hrr
    clear hrr HR hM hn
    have ho8 : ones m ≤ 8 := by unfold ones; omega
    generalize len8 m = y at H35 HRR hl8
    generalize ones m = o at H36 HRR ho8
    have hk' : (kind : Int) < 256 := by omega
    go_enter Tryz.func61, Tryz.ntmps61
    go_wp2_with (first | (refine wpList_box26 rfl _ rfl rfl ?_))
    have hS : CB ((w.alloc (.cells (cg c) 26)).alloc (.cells #[.int .u8 kind, .int .u8 m] 45)).drew w.heap.size c ∧ Blk ((w.alloc (.cells (cg c) 26)).alloc (.cells #[.int .u8 kind, .int .u8 m] 45)).drew (w.heap.size + 1) 45 #[.int .u8 kind, .int .u8 m] := ⟨HB.out, HP.out⟩
    have HCd := hide HC.out.drew
    refine wp_region_t [5, 6, 0, 0, 0, 5, 6, 0, 5, 0, 0] [none, none, none, none, some (9, false), some (9, false), some (9, false), some (9, false), some (9, false), some (9, false), none] (fun W => CB W w.heap.size c ∧ Blk W (w.heap.size + 1) 45 #[.int .u8 kind, .int .u8 m]) (by kernel_rfl) (by kernel_rfl) (by kernel_rfl) ?_
    go_wp2_with (first | (refine wpG_hload 26 _ rfl rfl (fun w' hw' => load26 hw'.1) hS ?_) | (refine wpG_calc rfl (fun K hK => ?_)) | (refine wpG_skip ?_ ?_; (focus (simp [wantG]; done)); go_simp) | (refine wpG_take ?_ ?_; (focus (simp [wantG]; done))) | (refine wpG_pure (fun K hK => ?_); go_simp; refine hK _ _ ?_; clear hK K) | (refine wpG_deed (by decide) (fun K hK => ?_); go_simp) | (refine wpG_nil ?_))
    (refine wpG_keeps hS (fun K hK => ?_))
    go_simp
    refine (H18.out _).mono ?_
    rintro e W2 ⟨rfl, hc2⟩
    have hS2 : CB W2 w.heap.size c ∧ Blk W2 (w.heap.size + 1) 45 #[.int .u8 kind, .int .u8 m] := ⟨CB.stay_ hS.1 hc2, hS.2.chg hc2 List.not_mem_nil⟩
    refine hK _ _ hS2 ?_
    clear hK K
    have HC2 := hide (HCd.out.stay hc2)
    clear hS hc2 HCd
    go_wp2_with (first | (refine wpG_hload 5 _ rfl rfl (fun w' hw' => load_u8 (by simpa using Blk.cell hw'.2 1)) hS2 ?_; go_simp) | (refine wpG_calc rfl (fun K hK => ?_)) | (refine wpG_skip ?_ ?_; (focus (simp [wantG]; done)); go_simp) | (refine wpG_take ?_ ?_; (focus (simp [wantG]; done))) | (refine wpG_pure (fun K hK => ?_); go_simp; refine hK _ _ ?_; clear hK K) | (refine wpG_deed (by decide) (fun K hK => ?_); go_simp) | (refine wpG_nil ?_))
    (refine wpG_keeps hS2 (fun K hK => ?_))
    go_simp
    refine (H35.out _).mono ?_
    rintro e W3 ⟨rfl, rfl⟩
    refine hK _ _ hS2 ?_
    clear hK K
    have hld : ∀ w', (CB w' w.heap.size c ∧ Blk w' (w.heap.size + 1) 45 #[.int .u8 kind, .int .u8 m]) → (loadVar 3 ⟨w.heap.size, 0, none⟩).run Tryz.prog w' = .ok (.int .i64 n) w' := fun w' h => load_int Tryz.underlying3 (by rw [CB.get h.1 (by omega), HN.out])
    have p0 := hS2.2.cell 0
    have p1 := hS2.2.cell 1
    simp at p0 p1
    by_cases hy : y ≤ n
    · have y1 : decide ((n : Int) < (y : Int)) = false := decide_eq_false (by omega)
      have y2 : decide (n < y) = false := decide_eq_false (by omega)
      go_wp2_with (first | (refine wpG_hload 3 _ rfl rfl hld hS2 ?_; go_simp) | (refine wpG_calc rfl (fun K hK => ?_)) | (refine wpG_skip ?_ ?_; (focus (simp [wantG]; done)); go_simp) | (refine wpG_take ?_ ?_; (focus (simp [wantG]; done))) | (refine wpG_pure (fun K hK => ?_); go_simp; refine hK _ _ ?_; clear hK K) | (refine wpG_deed (by decide) (fun K hK => ?_); go_simp) | (refine wpG_nil ?_))
      refine (H36.out _).mono ?_
      rintro e W4 ⟨rfl, rfl⟩
      by_cases k0 : kind = 0
      · subst k0
        have hr : r = ((o : Int) == 0) := by rw [HRR.out, Bool.eq_iff_iff]; simp [kindZ]; omega
        subst hr
        clear HRR
        go_wp2_with fail
        go_ret
        exact ⟨rfl, HC2.out⟩
      have j0 : ((kind : Int) == 0) = false := by simp; omega
      have i0 : (kind == 0) = false := by simpa using k0
      by_cases k1 : kind = 1
      · subst k1
        have hr : r = ((o : Int) == 1) := by rw [HRR.out, Bool.eq_iff_iff]; simp [kindZ]; omega
        subst hr
        clear HRR
        go_wp2_with fail
        go_ret
        exact ⟨rfl, HC2.out⟩
      have j1 : ((kind : Int) == 1) = false := by simp; omega
      have i1 : (kind == 1) = false := by simpa using k1
      by_cases k2 : kind = 2
      · subst k2
        have hr : r = decide (0 < o) := by rw [HRR.out, Bool.eq_iff_iff]; simp [kindZ]; omega
        subst hr
        clear HRR
        go_wp2_with fail
        go_ret
        exact ⟨rfl, HC2.out⟩
      have j2 : ((kind : Int) == 2) = false := by simp; omega
      have i2 : (kind == 2) = false := by simpa using k2
      by_cases k3 : kind = 3
      · subst k3
        have hr : r = decide (0 < o) := by rw [HRR.out, Bool.eq_iff_iff]; simp [kindZ]; omega
        subst hr
        clear HRR
        go_wp2_with fail
        go_ret
        exact ⟨rfl, HC2.out⟩
      have j3 : ((kind : Int) == 3) = false := by simp; omega
      have i3 : (kind == 3) = false := by simpa using k3
      have hr : r = false := by rw [HRR.out, Bool.eq_false_iff]; simp [kindZ]; omega
      subst hr
      clear HRR
      go_wp2_with fail
      go_ret
      exact ⟨rfl, HC2.out⟩
    · have y1 : decide ((n : Int) < (y : Int)) = true := decide_eq_true (by omega)
      have y2 : decide (n < y) = true := decide_eq_true (by omega)
      obtain rfl : r = false := by rw [HRR.out, decide_eq_false hy]; rfl
      go_wp2_with (first | (refine wpG_hload 3 _ rfl rfl hld hS2 ?_; go_simp) | (refine wpG_calc rfl (fun K hK => ?_)) | (refine wpG_skip ?_ ?_; (focus (simp [wantG]; done)); go_simp) | (refine wpG_take ?_ ?_; (focus (simp [wantG]; done))) | (refine wpG_pure (fun K hK => ?_); go_simp; refine hK _ _ ?_; clear hK K) | (refine wpG_deed (by decide) (fun K hK => ?_); go_simp) | (refine wpG_nil ?_))
      go_ret
      exact ⟨rfl, HC2.out⟩
end Go.Proofs.YtfoleblcaloeoaaGreatDoor
