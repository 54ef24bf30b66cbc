/- Texts merged for the claim: CaC. -/
import Derived.Test.YtfoleblcaloeoaaGreatDoorZab
/- bare, Same, May. -/
namespace Go.Proofs.YtfoleblcaloeoaaGreatDoor
open Go Go.RowKit

/-- one field is taken over -/
def setF (x y : Cl) (f : Nat) : Cl :=
  if f = 112 then { y with p := x.p } else if f = 103 then { y with g := x.g } else if f = 99 then { y with c := x.c } else if f = 110 then { y with n := x.n }
  else if f = 97 then { y with a := x.a } else if f = 115 then { y with s := x.s } else if f = 114 then { y with r := x.r } else if f = 111 then { y with ok := x.ok, om := x.om }
  else if f = 104 then { y with h := x.h } else if f = 98 then { y with l := x.l } else y
def setU (v u : Value) (f : Nat) : Value := if f = 98 then v else u
def partC (x : Cl) (F : List Nat) : Cl := F.foldl (setF x) { zCl with k := x.k }
def partV (v : Value) (F : List Nat) : Value := F.foldl (setU v) zV
theorem partC_snoc (x : Cl) (F : List Nat) (f : Nat) : partC x (F ++ [f]) = setF x (partC x F) f := by unfold partC; rw [List.foldl_append]; rfl
theorem partV_snoc (v : Value) (F : List Nat) (f : Nat) : partV v (F ++ [f]) = setU v (partV v F) f := by unfold partV; rw [List.foldl_append]; rfl
theorem partV_one {v : Value} (hv : v.oneCell' = true) : ∀ F : List Nat, (partV v F).oneCell' = true := by
  have : ∀ (F : List Nat) (u : Value), u.oneCell' = true → (F.foldl (setU v) u).oneCell' = true := by
    intro F
    induction F with
    | nil => intro u hu; exact hu
    | cons f F ih =>
      intro u hu
      refine ih _ ?_
      unfold setU
      split
      · exact hv
      · exact hu
  exact fun F => this F zV rfl
def bareK (x : Cl) : Cl := partC x (fld x.k)
def bareU (x : Cl) (v : Value) : Value := partV v (fld x.k)
theorem KB.put {w : World} {b : Nat} {x y : Cl} {v u : Value} (h : KB w b x v) (i : Nat) (z : Value) (he : (clc x v).setIfInBounds i z = clc y u) : KB (w.setCell ⟨b, i, none⟩ z) b y u := by
  have := Blk.set_ h i z
  rw [he] at this
  exact this
theorem Itr.pos {w : World} {b j : Nat} {l : List Nat} (h : Itr w b l j) : w.iterPos b = j := by unfold World.iterPos; rw [show w.heap[b]? = _ from h]
theorem take_snoc {α : Type} {F : List α} {j : Nat} (hj : j < F.length) : F.take (j + 1) = F.take j ++ [F[j]] := List.take_succ_eq_append_getElem hj
set_option maxRecDepth 20000 in
set_option maxHeartbeats 4000000 in
theorem bareK_any {w : World} (hf : FW w) {x : Cl} {v : Value} (hk : x.k < 256) (hv : ∃ A n c, v = .slice A n c) : Calls Tryz.prog 87 #[.agg (clc x v)] w fun e w' => e = .returned (.agg (clc (bareK x) (bareU x v))) ∧ Chg [] w w' := by
  obtain ⟨A0, n0, c0, rfl⟩ := hv
  unfold bareK bareU
  have HOF := fun W (h : Chg [] w W) => of_any (hf.stay h) hk
  have HFM := hide (fun f (h : f ∈ fld x.k) => fld_mem h)
  generalize fld x.k = F at HOF HFM ⊢
  have HOF := hide HOF
  obtain ⟨W2, hW2⟩ : ∃ W2, W2 = (w.alloc (.cells (clc x (.slice A0 n0 c0)) 47)).alloc (.cells (clc zCl zV) 47) := ⟨_, rfl⟩
  have hs2 : W2.heap.size = w.heap.size + 1 + 1 := by rw [hW2]; simp
  have hb1 : KB W2 w.heap.size x (.slice A0 n0 c0) := by rw [hW2]; exact (Blk.new w 47 _).alloc _
  have hb2 : KB W2 (w.heap.size + 1) zCl zV := by
    have := Blk.new (w.alloc (.cells (clc x (.slice A0 n0 c0)) 47)) 47 (clc zCl zV)
    rw [World.size_alloc] at this
    rw [hW2]
    exact this
  have hc0 : Chg [] w W2 := by rw [hW2]; exact ((Chg.refl [] w).alloc _).alloc _
  obtain ⟨q0, -⟩ := hb1.cells
  have hb3 : KB (W2.alloc (.cells (clc zCl zV) 47)) (w.heap.size + 1 + 1) zCl zV := by rw [← hs2]; exact Blk.new W2 47 _
  have HB1 := hide (show KB (W2.alloc (.cells (clc zCl zV) 47)) w.heap.size x (.slice A0 n0 c0) from Blk.alloc hb1 _)
  have HB2 := hide (show KB (W2.alloc (.cells (clc zCl zV) 47)) (w.heap.size + 1) zCl zV from Blk.alloc hb2 _)
  have HB3 := hide hb3
  have HC3 := hide (hc0.alloc (.cells (clc zCl zV) 47))
  have hbl : w.heap.size < W2.heap.size := by omega
  have HW2 := hide hW2
  have HS2 := hide hs2
  rw [hW2] at q0 hbl
  clear hb1 hb2 hb3 hc0 hW2 hs2
  go_enter Tryz.func87, Tryz.ntmps87
  go_wp2_with (first | (refine wpList_box34 rfl _ rfl rfl ?_) | (refine wpList_alloc34 rfl rfl ?_; try simp only [World.size_alloc]; try go_simp) | (rw [← HW2.out]; refine wpList_store34 (b := w.heap.size + 1 + 1) (y := { zCl with k := x.k }) (u := zV) rfl _ _ rfl rfl rfl rfl HB3.out ?_; intro W4 h4 hc4; obtain ⟨q4, -, -, -, -, -, -, -, -, -, -, -, l4, -⟩ := KB.cells (x := x) (v := (.slice A0 n0 c0)) (Blk.chg HB1.out hc4 (by simp only [List.mem_singleton]; omega))))
  have HB1 := hide (show KB W4 w.heap.size x (.slice A0 n0 c0) from Blk.chg HB1.out hc4 (by simp only [List.mem_singleton]; omega))
  have HB2 := hide (show KB W4 (w.heap.size + 1) zCl zV from Blk.chg HB2.out hc4 (by simp only [List.mem_singleton]; omega))
  have HB4 := hide h4
  have HC4 := hide (HC3.out.trans hc4 (fun y hy => .inr (by obtain rfl := List.mem_singleton.1 hy; omega)))
  clear h4 hc4 HB3 HC3 q0 hbl
  refine (HOF.out W4 HC4.out).mono ?_
  rintro e W5 ⟨rfl, rfl⟩
  have hit := Itr.new W4 (F)
  have hci := chg_iter W4 (strB (F))
  have HLE := hide (show w.heap.size < W4.heap.size ∧ w.heap.size + 1 < W4.heap.size ∧ w.heap.size + 1 + 1 < W4.heap.size from ⟨HB1.out.lt, HB2.out.lt, HB4.out.lt⟩)
  have HI := hide hit
  have HB1 := hide (show KB (W4.iter (strB (F)) 0) w.heap.size x (.slice A0 n0 c0) from HB1.out.stay hci)
  have HB2 := hide (show KB (W4.iter (strB (F)) 0) (w.heap.size + 1) zCl zV from HB2.out.stay hci)
  have HB4 := hide (show KB (W4.iter (strB (F)) 0) (w.heap.size + 1 + 1) (partC x ((F).take 0)) (partV (.slice A0 n0 c0) ((F).take 0)) from HB4.out.stay hci)
  have HC4 := hide (HC4.out.stay hci)
  clear hit hci q4 l4 HW2 HS2 hf HOF
  go_wp2_with fail
  obtain ⟨W6, hW6⟩ : ∃ W6, W6 = W4.iter (strB F) 0 := ⟨_, rfl⟩
  rw [← hW6] at HI HB1 HB2 HB4 HC4 ⊢
  obtain ⟨b1, h1⟩ : ∃ b, b = w.heap.size := ⟨_, rfl⟩
  obtain ⟨b2, h2⟩ : ∃ b, b = w.heap.size + 1 := ⟨_, rfl⟩
  obtain ⟨b3, h3⟩ : ∃ b, b = w.heap.size + 1 + 1 := ⟨_, rfl⟩
  obtain ⟨bi, h5⟩ : ∃ b, b = W4.heap.size := ⟨_, rfl⟩
  rw [← h3] at HB4 HLE ⊢
  rw [← h2] at HB2 HLE ⊢
  rw [← h5] at HI HLE ⊢
  have HNE := hide (show b1 ≠ b2 ∧ b1 ≠ b3 ∧ b2 ≠ b3 ∧ b1 ≠ bi ∧ b2 ≠ bi ∧ b3 ≠ bi ∧ w.heap.size ≤ b2 ∧ w.heap.size ≤ b3 ∧ w.heap.size ≤ bi from by have := HLE.out; omega)
  rw [← h1] at HB1 HLE ⊢
  have H1 := hide h1
  clear hW6 h1 h2 h3 h5 HLE
  go_loopw [] (fun wr => ∃ j : Nat, j ≤ F.length ∧ Hid (KB wr b1 x (.slice A0 n0 c0)) ∧ Hid (KB wr b2 zCl zV) ∧ Hid (KB wr b3 (partC x (F.take j)) (partV (.slice A0 n0 c0) (F.take j))) ∧ Hid (Itr wr bi F j) ∧ Hid (Chg [] w wr)) (fun wr => F.length - wr.iterPos bi)
  case atStart => exact ⟨0, by omega, HB1, HB2, HB4, HI, HC4⟩
  case round =>
    obtain ⟨j, hj, k1, k2, k3, ki, kc⟩ := hrel
    by_cases hlt : j < F.length
    · have hlet := HFM.out _ (List.getElem_mem hlt)
      obtain ⟨W1, hnx, hi1, hc1⟩ := ki.out.next hlt (letter_lt hlet)
      have K1 := hide (show KB W1 b1 x (.slice A0 n0 c0) from Blk.chg k1.out hc1 (by simpa using HNE.out.2.2.2.1))
      have K2 := hide (show KB W1 b2 zCl zV from Blk.chg k2.out hc1 (by simpa using HNE.out.2.2.2.2.1))
      have K3 := hide (show KB W1 b3 (partC x (F.take j)) (partV (.slice A0 n0 c0) (F.take j)) from Blk.chg k3.out hc1 (by simpa using HNE.out.2.2.2.2.2.1))
      have KC := hide (kc.out.trans hc1 (fun y hy => .inr (by obtain rfl := List.mem_singleton.1 hy; exact HNE.out.2.2.2.2.2.2.2.2)))
      have KI := hide hi1
      have htk := take_snoc hlt
      have HPC := hide (show partC x (F.take (j + 1)) = setF x (partC x (F.take j)) F[j] from by rw [htk, partC_snoc])
      have HPV := hide (show partV (.slice A0 n0 c0) (F.take (j + 1)) = setU (.slice A0 n0 c0) (partV (.slice A0 n0 c0) (F.take j)) F[j] from by rw [htk, partV_snoc])
      have hm0 : wr.iterPos bi = j := by unfold World.iterPos; rw [show wr.heap[bi]? = _ from ki.out]
      obtain ⟨c1, c2, c3, c4, c5, c6, c7, c8, c9, c10, c11, c12, cl, cf⟩ := K1.out.cells
      obtain ⟨d1, d2, d3, d4, d5, d6, d7, d8, d9, d10, d11, d12, dl, df⟩ := K3.out.cells
      have HN1 := hide (fun W (h : b1 < W.heap.size) => number_any (w := W) h hlet)
      have HN3 := hide (fun W (h : b3 < W.heap.size) => number_any (w := W) h hlet)
      generalize F[j] = f at hlet hnx HPC HPV HN1 HN3
      generalize partC x (F.take j) = y at K3 HPC d1 d2 d3 d4 d5 d6 d7 d8 d9 d10 d11 d12
      generalize partV (.slice A0 n0 c0) (F.take j) = u at K3 HPV d12
      clear hi1 hc1 htk k1 k2 k3 ki kc
      rcases hlet with rfl | rfl | rfl | rfl | rfl | rfl | rfl | rfl | rfl | rfl | rfl
      · simp only [numO, ptrO, reduceIte, Nat.reduceEqDiff, Option.isSome] at HN1 HN3
        simp only [setF, setU, reduceIte, Nat.reduceEqDiff] at HPC HPV
        have HK := hide (show KB W1 b3 (partC x (F.take (j + 1))) (partV (.slice A0 n0 c0) (F.take (j + 1))) from by rw [HPC.out, HPV.out]; exact K3.out)
        go_wp2_with fail
        refine (HN1.out _ cl).mono ?_
        rintro e W9 ⟨rfl, rfl⟩
        go_wp2_with fail
        go_roundw
        case rel => exact ⟨j + 1, by omega, K1, K2, HK, KI, KC⟩
        case measure => rw [hm0, KI.out.pos]; omega
      · simp only [numO, ptrO, reduceIte, Nat.reduceEqDiff, Option.isSome] at HN1 HN3
        simp only [setF, setU, reduceIte, Nat.reduceEqDiff] at HPC HPV
        have HK := hide (show KB (W1.setCell ⟨b3, 1, none⟩ (.int .i64 x.p)) b3 (partC x (F.take (j + 1))) (partV (.slice A0 n0 c0) (F.take (j + 1))) from by rw [HPC.out, HPV.out]; exact K3.out.put 1 _ rfl)
        have HW := hide (And.intro (show KB (W1.setCell ⟨b3, 1, none⟩ (.int .i64 x.p)) b1 x (.slice A0 n0 c0) from K1.out.far HNE.out.2.1 _) (And.intro (show KB (W1.setCell ⟨b3, 1, none⟩ (.int .i64 x.p)) b2 zCl zV from K2.out.far HNE.out.2.2.1 _) (And.intro (show Itr (W1.setCell ⟨b3, 1, none⟩ (.int .i64 x.p)) bi F (j + 1) from (Below.heap_setCell W1 _ _ bi (Ne.symm HNE.out.2.2.2.2.2.1)).trans KI.out) (KC.out.setCell (p := ⟨b3, 1, none⟩) (.inr HNE.out.2.2.2.2.2.2.2.1) (.int .i64 x.p)))))
        go_wp2_with fail
        refine (HN1.out _ cl).mono ?_
        rintro e W9 ⟨rfl, rfl⟩
        go_wp2_with fail
        refine (HN3.out _ dl).mono ?_
        rintro e W9 ⟨rfl, rfl⟩
        go_wp2_with fail
        go_roundw
        case rel => exact ⟨j + 1, by omega, hide HW.out.1, hide HW.out.2.1, HK, hide HW.out.2.2.1, hide HW.out.2.2.2⟩
        case measure => rw [hm0, HW.out.2.2.1.pos]; omega
      · simp only [numO, ptrO, reduceIte, Nat.reduceEqDiff, Option.isSome] at HN1 HN3
        simp only [setF, setU, reduceIte, Nat.reduceEqDiff] at HPC HPV
        have HK := hide (show KB (W1.setCell ⟨b3, 3, none⟩ (.int .i64 x.g)) b3 (partC x (F.take (j + 1))) (partV (.slice A0 n0 c0) (F.take (j + 1))) from by rw [HPC.out, HPV.out]; exact K3.out.put 3 _ rfl)
        have HW := hide (And.intro (show KB (W1.setCell ⟨b3, 3, none⟩ (.int .i64 x.g)) b1 x (.slice A0 n0 c0) from K1.out.far HNE.out.2.1 _) (And.intro (show KB (W1.setCell ⟨b3, 3, none⟩ (.int .i64 x.g)) b2 zCl zV from K2.out.far HNE.out.2.2.1 _) (And.intro (show Itr (W1.setCell ⟨b3, 3, none⟩ (.int .i64 x.g)) bi F (j + 1) from (Below.heap_setCell W1 _ _ bi (Ne.symm HNE.out.2.2.2.2.2.1)).trans KI.out) (KC.out.setCell (p := ⟨b3, 3, none⟩) (.inr HNE.out.2.2.2.2.2.2.2.1) (.int .i64 x.g)))))
        go_wp2_with fail
        refine (HN1.out _ cl).mono ?_
        rintro e W9 ⟨rfl, rfl⟩
        go_wp2_with fail
        refine (HN3.out _ dl).mono ?_
        rintro e W9 ⟨rfl, rfl⟩
        go_wp2_with fail
        go_roundw
        case rel => exact ⟨j + 1, by omega, hide HW.out.1, hide HW.out.2.1, HK, hide HW.out.2.2.1, hide HW.out.2.2.2⟩
        case measure => rw [hm0, HW.out.2.2.1.pos]; omega
      · simp only [numO, ptrO, reduceIte, Nat.reduceEqDiff, Option.isSome] at HN1 HN3
        simp only [setF, setU, reduceIte, Nat.reduceEqDiff] at HPC HPV
        have HK := hide (show KB (W1.setCell ⟨b3, 4, none⟩ (.int .i64 x.c)) b3 (partC x (F.take (j + 1))) (partV (.slice A0 n0 c0) (F.take (j + 1))) from by rw [HPC.out, HPV.out]; exact K3.out.put 4 _ rfl)
        have HW := hide (And.intro (show KB (W1.setCell ⟨b3, 4, none⟩ (.int .i64 x.c)) b1 x (.slice A0 n0 c0) from K1.out.far HNE.out.2.1 _) (And.intro (show KB (W1.setCell ⟨b3, 4, none⟩ (.int .i64 x.c)) b2 zCl zV from K2.out.far HNE.out.2.2.1 _) (And.intro (show Itr (W1.setCell ⟨b3, 4, none⟩ (.int .i64 x.c)) bi F (j + 1) from (Below.heap_setCell W1 _ _ bi (Ne.symm HNE.out.2.2.2.2.2.1)).trans KI.out) (KC.out.setCell (p := ⟨b3, 4, none⟩) (.inr HNE.out.2.2.2.2.2.2.2.1) (.int .i64 x.c)))))
        go_wp2_with fail
        refine (HN1.out _ cl).mono ?_
        rintro e W9 ⟨rfl, rfl⟩
        go_wp2_with fail
        refine (HN3.out _ dl).mono ?_
        rintro e W9 ⟨rfl, rfl⟩
        go_wp2_with fail
        go_roundw
        case rel => exact ⟨j + 1, by omega, hide HW.out.1, hide HW.out.2.1, HK, hide HW.out.2.2.1, hide HW.out.2.2.2⟩
        case measure => rw [hm0, HW.out.2.2.1.pos]; omega
      · simp only [numO, ptrO, reduceIte, Nat.reduceEqDiff, Option.isSome] at HN1 HN3
        simp only [setF, setU, reduceIte, Nat.reduceEqDiff] at HPC HPV
        have HK := hide (show KB (W1.setCell ⟨b3, 2, none⟩ (.int .i64 x.n)) b3 (partC x (F.take (j + 1))) (partV (.slice A0 n0 c0) (F.take (j + 1))) from by rw [HPC.out, HPV.out]; exact K3.out.put 2 _ rfl)
        have HW := hide (And.intro (show KB (W1.setCell ⟨b3, 2, none⟩ (.int .i64 x.n)) b1 x (.slice A0 n0 c0) from K1.out.far HNE.out.2.1 _) (And.intro (show KB (W1.setCell ⟨b3, 2, none⟩ (.int .i64 x.n)) b2 zCl zV from K2.out.far HNE.out.2.2.1 _) (And.intro (show Itr (W1.setCell ⟨b3, 2, none⟩ (.int .i64 x.n)) bi F (j + 1) from (Below.heap_setCell W1 _ _ bi (Ne.symm HNE.out.2.2.2.2.2.1)).trans KI.out) (KC.out.setCell (p := ⟨b3, 2, none⟩) (.inr HNE.out.2.2.2.2.2.2.2.1) (.int .i64 x.n)))))
        go_wp2_with fail
        refine (HN1.out _ cl).mono ?_
        rintro e W9 ⟨rfl, rfl⟩
        go_wp2_with fail
        refine (HN3.out _ dl).mono ?_
        rintro e W9 ⟨rfl, rfl⟩
        go_wp2_with fail
        go_roundw
        case rel => exact ⟨j + 1, by omega, hide HW.out.1, hide HW.out.2.1, HK, hide HW.out.2.2.1, hide HW.out.2.2.2⟩
        case measure => rw [hm0, HW.out.2.2.1.pos]; omega
      · simp only [numO, ptrO, reduceIte, Nat.reduceEqDiff, Option.isSome] at HN1 HN3
        simp only [setF, setU, reduceIte, Nat.reduceEqDiff] at HPC HPV
        have HK := hide (show KB (W1.setCell ⟨b3, 5, none⟩ (.int .i64 x.a)) b3 (partC x (F.take (j + 1))) (partV (.slice A0 n0 c0) (F.take (j + 1))) from by rw [HPC.out, HPV.out]; exact K3.out.put 5 _ rfl)
        have HW := hide (And.intro (show KB (W1.setCell ⟨b3, 5, none⟩ (.int .i64 x.a)) b1 x (.slice A0 n0 c0) from K1.out.far HNE.out.2.1 _) (And.intro (show KB (W1.setCell ⟨b3, 5, none⟩ (.int .i64 x.a)) b2 zCl zV from K2.out.far HNE.out.2.2.1 _) (And.intro (show Itr (W1.setCell ⟨b3, 5, none⟩ (.int .i64 x.a)) bi F (j + 1) from (Below.heap_setCell W1 _ _ bi (Ne.symm HNE.out.2.2.2.2.2.1)).trans KI.out) (KC.out.setCell (p := ⟨b3, 5, none⟩) (.inr HNE.out.2.2.2.2.2.2.2.1) (.int .i64 x.a)))))
        go_wp2_with fail
        refine (HN1.out _ cl).mono ?_
        rintro e W9 ⟨rfl, rfl⟩
        go_wp2_with fail
        refine (HN3.out _ dl).mono ?_
        rintro e W9 ⟨rfl, rfl⟩
        go_wp2_with fail
        go_roundw
        case rel => exact ⟨j + 1, by omega, hide HW.out.1, hide HW.out.2.1, HK, hide HW.out.2.2.1, hide HW.out.2.2.2⟩
        case measure => rw [hm0, HW.out.2.2.1.pos]; omega
      · simp only [numO, ptrO, reduceIte, Nat.reduceEqDiff, Option.isSome] at HN1 HN3
        simp only [setF, setU, reduceIte, Nat.reduceEqDiff] at HPC HPV
        have HK := hide (show KB (W1.setCell ⟨b3, 6, none⟩ (.int .i64 x.s)) b3 (partC x (F.take (j + 1))) (partV (.slice A0 n0 c0) (F.take (j + 1))) from by rw [HPC.out, HPV.out]; exact K3.out.put 6 _ rfl)
        have HW := hide (And.intro (show KB (W1.setCell ⟨b3, 6, none⟩ (.int .i64 x.s)) b1 x (.slice A0 n0 c0) from K1.out.far HNE.out.2.1 _) (And.intro (show KB (W1.setCell ⟨b3, 6, none⟩ (.int .i64 x.s)) b2 zCl zV from K2.out.far HNE.out.2.2.1 _) (And.intro (show Itr (W1.setCell ⟨b3, 6, none⟩ (.int .i64 x.s)) bi F (j + 1) from (Below.heap_setCell W1 _ _ bi (Ne.symm HNE.out.2.2.2.2.2.1)).trans KI.out) (KC.out.setCell (p := ⟨b3, 6, none⟩) (.inr HNE.out.2.2.2.2.2.2.2.1) (.int .i64 x.s)))))
        go_wp2_with fail
        refine (HN1.out _ cl).mono ?_
        rintro e W9 ⟨rfl, rfl⟩
        go_wp2_with fail
        refine (HN3.out _ dl).mono ?_
        rintro e W9 ⟨rfl, rfl⟩
        go_wp2_with fail
        go_roundw
        case rel => exact ⟨j + 1, by omega, hide HW.out.1, hide HW.out.2.1, HK, hide HW.out.2.2.1, hide HW.out.2.2.2⟩
        case measure => rw [hm0, HW.out.2.2.1.pos]; omega
      · simp only [numO, ptrO, reduceIte, Nat.reduceEqDiff, Option.isSome] at HN1 HN3
        simp only [setF, setU, reduceIte, Nat.reduceEqDiff] at HPC HPV
        have HK := hide (show KB (W1.setCell ⟨b3, 7, none⟩ (.int .u8 x.r)) b3 (partC x (F.take (j + 1))) (partV (.slice A0 n0 c0) (F.take (j + 1))) from by rw [HPC.out, HPV.out]; exact K3.out.put 7 _ rfl)
        have HW := hide (And.intro (show KB (W1.setCell ⟨b3, 7, none⟩ (.int .u8 x.r)) b1 x (.slice A0 n0 c0) from K1.out.far HNE.out.2.1 _) (And.intro (show KB (W1.setCell ⟨b3, 7, none⟩ (.int .u8 x.r)) b2 zCl zV from K2.out.far HNE.out.2.2.1 _) (And.intro (show Itr (W1.setCell ⟨b3, 7, none⟩ (.int .u8 x.r)) bi F (j + 1) from (Below.heap_setCell W1 _ _ bi (Ne.symm HNE.out.2.2.2.2.2.1)).trans KI.out) (KC.out.setCell (p := ⟨b3, 7, none⟩) (.inr HNE.out.2.2.2.2.2.2.2.1) (.int .u8 x.r)))))
        go_wp2_with fail
        refine (HN1.out _ cl).mono ?_
        rintro e W9 ⟨rfl, rfl⟩
        go_wp2_with fail
        go_roundw
        case rel => exact ⟨j + 1, by omega, hide HW.out.1, hide HW.out.2.1, HK, hide HW.out.2.2.1, hide HW.out.2.2.2⟩
        case measure => rw [hm0, HW.out.2.2.1.pos]; omega
      · simp only [numO, ptrO, reduceIte, Nat.reduceEqDiff, Option.isSome] at HN1 HN3
        simp only [setF, setU, reduceIte, Nat.reduceEqDiff] at HPC HPV
        have HK := hide (show KB ((W1.setCell ⟨b3, 8, none⟩ (.int .u8 x.ok)).setCell ⟨b3, 9, none⟩ (.int .u8 x.om)) b3 (partC x (F.take (j + 1))) (partV (.slice A0 n0 c0) (F.take (j + 1))) from by rw [HPC.out, HPV.out]; exact (K3.out.put (y := { y with ok := x.ok }) 8 _ rfl).put 9 _ rfl)
        have HW := hide (And.intro (show KB ((W1.setCell ⟨b3, 8, none⟩ (.int .u8 x.ok)).setCell ⟨b3, 9, none⟩ (.int .u8 x.om)) b1 x (.slice A0 n0 c0) from (K1.out.far (p := ⟨b3, 8, none⟩) HNE.out.2.1 _).far HNE.out.2.1 _) (And.intro (show KB ((W1.setCell ⟨b3, 8, none⟩ (.int .u8 x.ok)).setCell ⟨b3, 9, none⟩ (.int .u8 x.om)) b2 zCl zV from (K2.out.far (p := ⟨b3, 8, none⟩) HNE.out.2.2.1 _).far HNE.out.2.2.1 _) (And.intro (show Itr ((W1.setCell ⟨b3, 8, none⟩ (.int .u8 x.ok)).setCell ⟨b3, 9, none⟩ (.int .u8 x.om)) bi F (j + 1) from (Below.heap_setCell _ ⟨b3, 9, none⟩ _ bi (Ne.symm HNE.out.2.2.2.2.2.1)).trans ((Below.heap_setCell W1 ⟨b3, 8, none⟩ _ bi (Ne.symm HNE.out.2.2.2.2.2.1)).trans KI.out)) ((KC.out.setCell (p := ⟨b3, 8, none⟩) (.inr HNE.out.2.2.2.2.2.2.2.1) (.int .u8 x.ok)).setCell (p := ⟨b3, 9, none⟩) (.inr HNE.out.2.2.2.2.2.2.2.1) (.int .u8 x.om)))))
        go_wp2_with fail
        refine (HN1.out _ cl).mono ?_
        rintro e W9 ⟨rfl, rfl⟩
        go_wp2_with fail
        go_roundw
        case rel => exact ⟨j + 1, by omega, hide HW.out.1, hide HW.out.2.1, HK, hide HW.out.2.2.1, hide HW.out.2.2.2⟩
        case measure => rw [hm0, HW.out.2.2.1.pos]; omega
      · simp only [numO, ptrO, reduceIte, Nat.reduceEqDiff, Option.isSome] at HN1 HN3
        simp only [setF, setU, reduceIte, Nat.reduceEqDiff] at HPC HPV
        have HK := hide (show KB (W1.setCell ⟨b3, 10, none⟩ (.int .u64 x.h)) b3 (partC x (F.take (j + 1))) (partV (.slice A0 n0 c0) (F.take (j + 1))) from by rw [HPC.out, HPV.out]; exact K3.out.put 10 _ rfl)
        have HW := hide (And.intro (show KB (W1.setCell ⟨b3, 10, none⟩ (.int .u64 x.h)) b1 x (.slice A0 n0 c0) from K1.out.far HNE.out.2.1 _) (And.intro (show KB (W1.setCell ⟨b3, 10, none⟩ (.int .u64 x.h)) b2 zCl zV from K2.out.far HNE.out.2.2.1 _) (And.intro (show Itr (W1.setCell ⟨b3, 10, none⟩ (.int .u64 x.h)) bi F (j + 1) from (Below.heap_setCell W1 _ _ bi (Ne.symm HNE.out.2.2.2.2.2.1)).trans KI.out) (KC.out.setCell (p := ⟨b3, 10, none⟩) (.inr HNE.out.2.2.2.2.2.2.2.1) (.int .u64 x.h)))))
        go_wp2_with fail
        refine (HN1.out _ cl).mono ?_
        rintro e W9 ⟨rfl, rfl⟩
        go_wp2_with fail
        go_roundw
        case rel => exact ⟨j + 1, by omega, hide HW.out.1, hide HW.out.2.1, HK, hide HW.out.2.2.1, hide HW.out.2.2.2⟩
        case measure => rw [hm0, HW.out.2.2.1.pos]; omega
      · simp only [numO, ptrO, reduceIte, Nat.reduceEqDiff, Option.isSome] at HN1 HN3
        simp only [setF, setU, reduceIte, Nat.reduceEqDiff] at HPC HPV
        have HK := hide (show KB (W1.setCell ⟨b3, 11, none⟩ (.slice A0 n0 c0)) b3 (partC x (F.take (j + 1))) (partV (.slice A0 n0 c0) (F.take (j + 1))) from by rw [HPC.out, HPV.out]; exact K3.out.put 11 _ rfl)
        have HW := hide (And.intro (show KB (W1.setCell ⟨b3, 11, none⟩ (.slice A0 n0 c0)) b1 x (.slice A0 n0 c0) from K1.out.far HNE.out.2.1 _) (And.intro (show KB (W1.setCell ⟨b3, 11, none⟩ (.slice A0 n0 c0)) b2 zCl zV from K2.out.far HNE.out.2.2.1 _) (And.intro (show Itr (W1.setCell ⟨b3, 11, none⟩ (.slice A0 n0 c0)) bi F (j + 1) from (Below.heap_setCell W1 _ _ bi (Ne.symm HNE.out.2.2.2.2.2.1)).trans KI.out) (KC.out.setCell (p := ⟨b3, 11, none⟩) (.inr HNE.out.2.2.2.2.2.2.2.1) (.slice A0 n0 c0)))))
        go_wp2_with fail
        refine (HN1.out _ cl).mono ?_
        rintro e W9 ⟨rfl, rfl⟩
        go_wp2_with fail
        go_roundw
        case rel => exact ⟨j + 1, by omega, hide HW.out.1, hide HW.out.2.1, HK, hide HW.out.2.2.1, hide HW.out.2.2.2⟩
        case measure => rw [hm0, HW.out.2.2.1.pos]; omega
    · obtain rfl : j = F.length := by omega
      rw [List.take_length] at k3
      have hnx := ki.out.done
      go_wp2_with (first | (refine wpList_load34 rfl _ rfl rfl k3.out ?_) | (refine wpList_store34 (y := partC x F) (u := partV (.slice A0 n0 c0) F) rfl _ _ rfl rfl rfl (partV_one rfl F) k2.out ?_; intro W7 h7 hc7))
      refine bodyPost_ret (v := .agg (clc (partC x F) (partV (.slice A0 n0 c0) F))) (results_cell_row (p := 2) (ty := 47) rfl _ _ b2 47 _ (0, 0) _ rfl h7 Tryz.underlying47 rfl info34) rfl ⟨rfl, ?_⟩
      exact kc.out.trans hc7 (fun y hy => .inr (by obtain rfl := List.mem_singleton.1 hy; exact HNE.out.2.2.2.2.2.2.1))
end Go.Proofs.YtfoleblcaloeoaaGreatDoor
