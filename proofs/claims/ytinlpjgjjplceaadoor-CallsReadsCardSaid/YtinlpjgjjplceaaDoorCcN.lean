/- The document's Read. -/
import Derived.Test.YtinlpjgjjplceaaDoorCcI
import Derived.Test.YtinlpjgjjplceaaDoorCcK
import Derived.Test.YtinlpjgjjplceaaDoorCcL
import Derived.Test.YtinlpjgjjplceaaDoorCaP
namespace Go.Proofs.YtinlpjgjjplceaaDoor
open Go Go.RowKit

theorem zB_built (k : Nat) : BC [(0, .int .u8 k)] (zB k []) := ⟨by kernel_rfl⟩
theorem zC_built : BC [] zCl := ⟨by kernel_rfl⟩
theorem set_step {M L : List Nat} {k : Nat} (hk : k < L.length) (hm : M.length = L.length) : (M.take k ++ L.drop k).set k (M[k]'(by omega)) = M.take (k + 1) ++ L.drop (k + 1) := by
  have hl : (M.take k).length = k := by rw [List.length_take]; omega
  rw [List.set_append_right _ _ (by omega), hl, Nat.sub_self, List.drop_eq_getElem_cons hk, List.set_cons_zero, List.take_succ_eq_append_getElem (by omega), List.append_assoc]
  rfl
theorem nums_len (B : List Nat) (n : Nat) : (nums B n).length = n := by unfold nums; rw [List.length_map, List.length_range]
theorem nums_get {B : List Nat} {n i : Nat} (h : i < (nums B n).length) : (nums B n)[i] = numB B (8 + 8 * i) := by simp [nums]
theorem nums_lt {B : List Nat} (h8 : ∀ b ∈ B, b < 256) (n : Nat) : ∀ y ∈ nums B n, y < 18446744073709551616 := by
  intro y hy
  unfold nums at hy
  obtain ⟨i, _, rfl⟩ := List.mem_map.1 hy
  exact numB_lt h8 _
theorem SW.set1 {w : World} {g off c k : Nat} {l : List Nat} (h : SW w (.slice (some ⟨g, off, none⟩) l.length c) l) (hk : k < l.length) (y : Nat) : SW (w.setCell ⟨g, off + k, none⟩ (.int .u64 y)) (.slice (some ⟨g, off, none⟩) l.length c) (l.set k y) := by
  have := SE.set (enc := wcl) wcl_len h (k := k) (j := 0) hk (by omega) (u := .int .u64 y) (x := y) rfl
  rwa [Nat.mul_one, Nat.add_zero] at this
theorem SW.not_call {w : World} {v u : Value} {l : List Nat} {b : Nat} {x : Cl} (h : SW w v l) (hb : KB w b x u) : b ∉ own v := fun hk => by
  obtain ⟨cur, hc⟩ := Sl.blk h hk
  exact Blk.ne_ hb hc (by decide) rfl
theorem SW.frozen {w : World} {g off n c : Nat} {l : List Nat} (h : SW w (.slice (some ⟨g, off, none⟩) n c) l) (i : Nat) : w.frozen? ⟨g, i, none⟩ = false := SE.frozen h i
theorem made_kb {W w' : World} {o : Obj} (hc : Chg [W.heap.size] (W.alloc o) w') : Chg [] W w' :=
  ((Chg.refl [] W).alloc _).trans hc (fun y hy => .inr (by obtain rfl := List.mem_singleton.1 hy; exact Nat.le_refl _))
def rReadR (w' : World) (B : List Nat) (e : Ending) : Prop := ∃ A n c, e = .returned (.tuple #[.agg (clc (rReadC B) (.slice A n c)), .int .i64 (rReadE B)]) ∧ RB w' (.slice A n c) (rReadC B).l
theorem rRead_no {B : List Nat} (h : rokR B = false) : rReadC B = zCl ∧ rReadE B = 5 := by
  unfold rReadC rReadE
  rw [h]
  exact ⟨rfl, rfl⟩
theorem rRead_ok {B : List Nat} (h : rokR B = true) : rReadC B = rX B ∧ rReadE B = 0 := by
  unfold rReadC rReadE
  rw [h]
  exact ⟨rfl, rfl⟩
theorem encR_b8 {x : Cl} (hx : x.Ok) : ∀ b ∈ encR x, b < 256 := by
  intro b hb
  unfold encR at hb
  rcases List.mem_append.1 hb with hb | hb
  · rcases List.mem_append.1 hb with hb | hb
    · exact le8_b _ b hb
    · obtain ⟨y, _, hy⟩ := List.mem_flatMap.1 hb
      exact le8_b _ b hy
  · by_cases h : hasBy x.k = true
    · rw [if_pos h] at hb
      rcases List.mem_append.1 hb with hb | hb
      · exact le8_b _ b hb
      · exact hx.l b hb
    · rw [if_neg h] at hb; cases hb
set_option maxRecDepth 20000 in
set_option maxHeartbeats 40000000 in
theorem rRead_any {w : World} {v : Value} {B : List Nat} (hv : RB w v B) (h8 : ∀ b ∈ B, b < 256) (hlen : B.length ≤ 100000) :
    Calls Tryd.prog 21 #[v] w fun e w' => rReadR w' B e ∧ Chg [] w w' := by
  obtain ⟨A0, c0, rfl⟩ := RE.form hv
  obtain ⟨W2, hW2⟩ : ∃ W2, W2 = w.alloc (.cells (clc zCl zV) 34) := ⟨_, rfl⟩
  have hb2 : KB W2 w.heap.size zCl zV := by rw [hW2]; exact Blk.new w 34 _
  have hc2 : Chg [] w W2 := by rw [hW2]; exact (Chg.refl [] w).alloc _
  obtain ⟨b2, e2⟩ : ∃ b, b = w.heap.size := ⟨_, rfl⟩
  rw [← e2] at hb2
  have HE := hide e2
  have HB2 := hide hb2
  have HC2 := hide hc2
  have HW2 := hide hW2
  have HN := hide (fun W (h : Chg [] w W) at_ (ha : at_ ≤ 100000) => rnum_any (hv.stay h) h8 at_ ha hlen)
  have HV := hide hv
  have H8 := hide h8
  have HL := hide hlen
  have hcap := (RB_cap hv).2
  have D0 := hide zC_built
  clear hv h8 hlen hb2 hc2 hW2 e2
  have HRK := hide (show rokR B = (decide (numB B 0 ≤ 255) && isK (numB B 0) && mayR (rX B) && (encR (rX B) == B)) from rfl)
  have HXO := hide (fun (h : numB B 0 ≤ 255) => rX_ok H8.out h)
  have HXE := hide (show rX B = ofK (numB B 0) (nums B (cntK (numB B 0))) (textR (numB B 0) B) from rfl)
  have HTE := hide (show textR (numB B 0) B = if hasBy (numB B 0) then B.drop (8 + 8 * cntK (numB B 0) + 8) else [] from rfl)
  have HN0 := hide (HN.out W2 HC2.out 0 (by omega))
  have HNL := hide (numB_lt H8.out 0)
  unfold rReadR
  generalize numB B 0 = N0 at *
  by_cases h1 : 255 < N0
  · have d1 : decide ((255 : Int) < (N0 : Int)) = true := decide_eq_true (by omega)
    have d1' : decide (255 < N0) = true := decide_eq_true h1
    have hno : rokR B = false := by rw [HRK.out, decide_eq_false (by omega : ¬ N0 ≤ 255)]; rfl
    rw [(rRead_no hno).1, (rRead_no hno).2]
    clear h1 hno
    go_enter Tryd.func21, Tryd.ntmps21
    go_upto_region 1 with (first | (refine wpList_alloc34 rfl rfl ?_; try simp only [World.size_alloc]; try rw [← HW2.out]))
    rw [← HE.out]
    go_wp2_with fail
    refine HN0.out.mono ?_
    rintro e W3 ⟨rfl, rfl⟩
    go_wp2_with (first | (refine wpList_build34 rfl _ rfl D0.out ?_ ?_; (focus (simp [Act.eval]; done))) | (refine wpList_store34 (b := b2) (y := zCl) (u := zV) rfl _ _ rfl rfl rfl rfl HB2.out ?_; intro W9 h9 hc9))
    refine bodyPost_ret (v := .tuple #[.agg (clc zCl zV), .int .i64 5]) (results_two (p := 2) (q := 3) rfl _ rfl h9) rfl ⟨⟨none, 0, 0, rfl, RE.nil _ _ _ _ _⟩, HC2.out.trans hc9 (fun y hy => .inr (by obtain rfl := List.mem_singleton.1 hy; exact Nat.le_of_eq HE.out.symm))⟩
  have d1 : decide ((255 : Int) < (N0 : Int)) = false := decide_eq_false (by omega)
  have d1' : decide (255 < N0) = false := decide_eq_false h1
  have hw8 : IntKind.u8.wrap (N0 : Int) = (N0 : Int) := by rw [IntKind.wrap_u8]; omega
  have HK8 := hide (show N0 < 256 by omega)
  have hok : rokR B = (isK N0 && mayR (rX B) && (encR (rX B) == B)) := by rw [HRK.out, decide_eq_true (by omega : N0 ≤ 255), Bool.true_and]
  have HOK := hide hok
  have HXOK := hide (HXO.out (by omega))
  have D1 := hide (zB_built N0)
  have hzo : (zB N0 []).Ok := { zCl_ok with k := HK8.out, l := fun _ h => by cases h }
  have HLI := hide (fun W => (List_any (w := W) hzo none 0 0))
  unfold ListR at HLI
  have hrl : (refL (zB N0 [])).length = cntK N0 := rfl
  have hsh := refL_short (zB N0 [])
  have hzk : (zB N0 []).k = N0 := rfl
  rw [hzk] at HLI
  rw [hrl] at hsh
  generalize refL (zB N0 []) = L at HLI hrl
  have HRL := hide hrl
  have HSH := hide hsh
  clear hok HRK HXO h1 hzo hrl hsh hzk
  cases hik : isK N0 with
  | false =>
    have hno : rokR B = false := by rw [HOK.out, hik]; rfl
    rw [(rRead_no hno).1, (rRead_no hno).2]
    rw [hik] at HLI
    clear hno hik
    go_enter Tryd.func21, Tryd.ntmps21
    go_upto_region 1 with (first | (refine wpList_alloc34 rfl rfl ?_; try simp only [World.size_alloc]; try rw [← HW2.out]))
    rw [← HE.out]
    go_wp2_with fail
    refine HN0.out.mono ?_
    rintro e W3 ⟨rfl, rfl⟩
    go_wp2_with (first | (refine wpList_build34 rfl _ rfl D1.out ?_ ?_; (focus (simp [Act.eval, hw8]; done))))
    refine (HLI.out W2).mono ?_
    rintro e W3 ⟨⟨A3, n3, c3, rfl, -, -⟩, hc3⟩
    have HB3 := hide (KB.stay HB2.out hc3)
    have HC3 := hide (HC2.out.stay hc3)
    clear hc3
    go_wp2_with (first | (refine wpList_build34 rfl _ rfl D0.out ?_ ?_; (focus (simp [Act.eval]; done))) | (refine wpList_store34 (b := b2) (y := zCl) (u := zV) rfl _ _ rfl rfl rfl rfl HB3.out ?_; intro W9 h9 hc9))
    refine bodyPost_ret (v := .tuple #[.agg (clc zCl zV), .int .i64 5]) (results_two (p := 2) (q := 3) rfl _ rfl h9) rfl ⟨⟨none, 0, 0, rfl, RE.nil _ _ _ _ _⟩, HC3.out.trans hc9 (fun y hy => .inr (by obtain rfl := List.mem_singleton.1 hy; exact Nat.le_of_eq HE.out.symm))⟩
  | true =>
  rw [hik] at HLI HOK
  clear hik
  rw [Bool.true_and] at HOK
  obtain ⟨R, hR⟩ : ∃ R, R = rReadC B := ⟨_, rfl⟩
  obtain ⟨E, hE⟩ : ∃ E, E = rReadE B := ⟨_, rfl⟩
  rw [← hR, ← hE]
  have HRE := hide (And.intro hR hE)
  clear hR hE
  obtain ⟨hs, hhs⟩ : ∃ b, b = hasBy N0 := ⟨_, rfl⟩
  rw [← hhs] at HLI HTE
  clear hhs
  go_enter Tryd.func21, Tryd.ntmps21
  go_upto_region 1 with (first | (refine wpList_alloc34 rfl rfl ?_; try simp only [World.size_alloc]; try rw [← HW2.out]))
  rw [← HE.out]
  go_wp2_with fail
  refine HN0.out.mono ?_
  rintro e W3 ⟨rfl, rfl⟩
  go_wp2_with (first | (refine wpList_build34 rfl _ rfl D1.out ?_ ?_; (focus (simp [Act.eval, hw8]; done))))
  refine (HLI.out W2).mono ?_
  rintro e W3 ⟨⟨A3, n3, c3, rfl, hs3, hf3⟩, hc3⟩
  have n3l : n3 = L.length := (RW_cap hs3.re).1
  subst n3l
  have HB3 := hide (KB.stay HB2.out hc3)
  have HC3 := hide (HC2.out.stay hc3)
  have HS3 := hide hs3
  have HF3 := hide (show ∀ k ∈ own (.slice A3 L.length c3), w.heap.size ≤ k from fun k hk => Nat.le_trans HC2.out.size (hf3 k hk))
  have hL8 : (L.length : Int) ≤ 8 := by have := HRL.out; have := HSH.out; omega
  have HNM := hide (show (nums B L.length).length = L.length from nums_len _ _)
  have HNG := hide (fun (i : Nat) (h : i < (nums B L.length).length) => nums_get h)
  have HNU := hide (nums_lt H8.out L.length)
  clear hs3 hf3 hc3 HB2 HLI
  rw [← HRL.out] at HXE HTE
  generalize nums B L.length = M at HNM HNG HNU HXE
  clear d1 d1'
  go_wp2_with fail
  go_loopw [8, 9] (fun a i wr => ∃ (k : Nat), k ≤ L.length ∧ a = .int .i64 (8 + 8 * (k : Int)) ∧ i = .int .i64 k ∧ Hid (SW wr (.slice A3 L.length c3) (M.take k ++ L.drop k)) ∧ Hid (Chg (own (.slice A3 L.length c3)) W3 wr)) (fun _ i _ => L.length - (intOf i).toNat)
  case atStart => exact ⟨0, by omega, rfl, rfl, hide (by simpa using HS3.out), hide (Chg.refl _ _)⟩
  case round =>
    obtain ⟨k, hk, rfl, rfl, hsw, hc⟩ := hrel
    have HCw := hide (HC3.out.trans hc.out (fun i hi => .inr (HF3.out i hi)))
    by_cases hkl : k < L.length
    · have hll : (M.take k ++ L.drop k).length = L.length := by rw [List.length_append, List.length_take, List.length_drop]; have := HNM.out; omega
      have hkM : k < M.length := by have := HNM.out; omega
      have hsw2 := hsw.out
      obtain ⟨g1, o1, rfl⟩ := SE.addr hsw2 (by omega)
      have q0 := RE.cell wcl_len hsw2.re (k := k) (by omega) (j := 0) (by omega) rfl
      have hgl : g1 < wr.heap.size := World.block_lt_of_cell? _ _ q0
      have hfz := SW.frozen hsw2 (o1 + k)
      simp only [Nat.mul_one, Nat.add_zero] at q0
      have HST := hide (show SW (wr.setCell ⟨g1, o1 + k, none⟩ (.int .u64 (numB B (8 + 8 * k) : Nat))) (.slice (some ⟨g1, o1, none⟩) L.length c3) (M.take (k + 1) ++ L.drop (k + 1)) by
        have h1 := hsw2
        rw [← hll] at h1
        have := SW.set1 h1 (k := k) (by omega) (numB B (8 + 8 * k))
        rw [← HNG.out k hkM, set_step hkl HNM.out, hll] at this
        rw [← HNG.out k hkM]
        exact this)
      have HNC := hide (HN.out wr HCw.out (8 + 8 * k) (by have := HSH.out; have := HRL.out; omega))
      generalize (M.take k ++ L.drop k)[k] = y0 at q0
      generalize numB B (8 + 8 * k) = y at HST HNC
      have hcast : (((8 + 8 * k : Nat)) : Int) = 8 + 8 * (k : Int) := by omega
      rw [hcast] at HNC
      have i0 : (0 : Int) ≤ (k : Int) := by omega
      have i1 : (k : Int) < (L.length : Int) := by omega
      have hkk := hide hkl
      clear hcast hsw2 hll hkM hkl hcap hw8
      go_wp2_with fail
      refine HNC.out.mono ?_
      rintro e W5 ⟨rfl, rfl⟩
      go_wp2_with fail
      go_roundw
      case rel => exact ⟨k + 1, by have := hkk.out; omega, by go_num, by go_num, hide HST.out, hide (hc.out.setCell (p := ⟨g1, o1 + k, none⟩) (.inl (by simp [own, Value.ownBlock])) _)⟩
      case measure => have := hkk.out; simp [intOf]; omega
    · obtain rfl : k = L.length := by omega
      have hsw2 : SW wr (.slice A3 L.length c3) M := by
        have := hsw.out
        rwa [List.drop_length, List.append_nil, List.take_of_length_le (by have := HNM.out; omega)] at this
      have HSM := hide hsw2.re
      have HB4 := hide (show KB wr b2 zCl zV from Blk.chg HB3.out hc.out (SW.not_call HS3.out HB3.out))
      clear hsw hsw2 hc hkl HB3
      obtain ⟨a, ha⟩ : ∃ a : Nat, a = 8 + 8 * L.length := ⟨_, rfl⟩
      have hai : (8 + 8 * (L.length : Int)) = (a : Int) := by omega
      have HA8 := hide (show a ≤ 1000 by have := HSH.out; have := HRL.out; omega)
      rw [show 8 + 8 * L.length + 8 = a + 8 by omega] at HTE
      go_upto_region 14 with (fail)
      rw [hai]
      have hwa : IntKind.i64.wrap ((a : Int) + 8) = (a : Int) + 8 := by rw [IntKind.wrap_i64]; have := HA8.out; omega
      have HHA := hide ha
      clear ha hai hL8
      go_cut [49] from 42 to 48 (fun z wc => z = .bool (hs && decide (a + 8 ≤ B.length)) ∧ wc = wr)
      case first =>
        cases hs with
        | false =>
          go_wp2_with fail
          go_meet
          case rel => exact ⟨rfl, rfl⟩
        | true =>
          by_cases hq : a + 8 ≤ B.length
          · have d : decide ((a : Int) + 8 ≤ (B.length : Int)) = true := decide_eq_true (by omega)
            have HQ := hide (show decide (a + 8 ≤ B.length) = true from decide_eq_true hq)
            clear hq
            go_wp2_with fail
            go_meet
            case rel => exact ⟨by rw [HQ.out]; rfl, rfl⟩
          · have d : decide ((a : Int) + 8 ≤ (B.length : Int)) = false := decide_eq_false (by omega)
            have HQ := hide (show decide (a + 8 ≤ B.length) = false from decide_eq_false hq)
            clear hq
            go_wp2_with fail
            go_meet
            case rel => exact ⟨by rw [HQ.out]; rfl, rfl⟩
      obtain ⟨rfl, rfl⟩ := hcut
      go_upto_if 49 with (fail)
      go_cut [10] from 49 to 55 (fun z W => ∃ A n c, z = .slice A n c ∧ SB W (.slice A n c) (textR N0 B) ∧ Chg [] wc W)
      case first =>
        have HCC := HCw
        by_cases hq : hs = true ∧ a + 8 ≤ B.length
        case neg =>
          have ht : textR N0 B = [] := by
            rw [HTE.out]
            by_cases h : hs = true
            · rw [if_pos h]; exact List.drop_eq_nil_of_le (by by_cases h2 : a + 8 ≤ B.length; exact absurd ⟨h, h2⟩ hq; omega)
            · rw [if_neg h]
          have hd : (hs && decide (a + 8 ≤ B.length)) = false := by
            cases hs with
            | false => rfl
            | true => exact decide_eq_false (fun h2 => hq ⟨rfl, h2⟩)
          have HT := hide ht
          rw [hd]
          clear ht hd hq
          go_wp2_with fail
          go_meet
          case rel => exact ⟨none, 0, 0, rfl, by rw [HT.out]; exact SE.nil _ _ _ _, Chg.refl _ _⟩
        case pos =>
          obtain ⟨rfl, h2⟩ := hq
          have ht : textR N0 B = B.drop (a + 8) := HTE.out
          have hd : (true && decide (a + 8 ≤ B.length)) = true := decide_eq_true h2
          have HT := hide ht
          rw [hd]
          obtain ⟨g, off, rfl⟩ := RE.addr HV.out (by omega)
          have hS2 : Chg [] wc (wc.alloc (.cells #[] 5)) := (Chg.refl [] wc).alloc _
          have HLN := hide (show ([] : List Nat).length + (B.drop (a + 8)).length ≤ 1000000 by have := HL.out; rw [List.length_drop]; simp; omega)
          have hh1 : (a : Int) + 8 ≤ (B.length : Int) := by omega
          have hh2 : (B.length : Int) ≤ (c0 : Int) := by omega
          have hh3 : (0 : Int) ≤ (a : Int) + 8 := by omega
          have ht1 : ((a : Int) + 8).toNat = a + 8 := by omega
          have hw2 : wrap64 ((a : Int) + 8) = (a : Int) + 8 := by unfold wrap64; have := HA8.out; omega
          by_cases hc0 : c0 = a + 8
          · subst hc0
            have hlB : B.length = a + 8 := by omega
            have HY := hide (show RB (wc.alloc (.cells #[] 5)) (.slice (some ⟨g, off, none⟩) 0 0) (B.drop (a + 8)) from by rw [List.drop_eq_nil_of_le (by omega)]; exact RE.nil ucl 1 _ _ _)
            clear ht hd h2 hlB
            go_wp2_with (at_builtin; refine wpList_append_b rfl _ _ rfl (.slice (some ⟨wc.heap.size, 0, none⟩) 0 0) (.slice (some ⟨g, off, none⟩) 0 0) rfl rfl (l := []) (m := B.drop (a + 8)) (SB_none wc) HY.out HLN.out ?_; intro A9 n9 c9 W9 hn9 hs9 hc9 hg9)
            go_meet
            case rel => exact ⟨A9, n9, c9, rfl, by rw [HT.out]; exact hs9, hS2.trans hc9 (fun k hk => .inr (by simp [own, Value.ownBlock] at hk; omega))⟩
          · have HY := hide (show RB (wc.alloc (.cells #[] 5)) (.slice (some ⟨g, off + (a + 8), none⟩) (B.length - (a + 8)) (c0 - (a + 8))) (B.drop (a + 8)) from RE_drop (HV.out.stay (HCC.out.stay hS2)) h2)
            have hc' : ¬ a + 8 = c0 := fun h => hc0 h.symm
            have hc2' : ¬ (a : Int) + 8 = (c0 : Int) := by omega
            clear ht hd h2
            go_wp2_with (at_builtin; refine wpList_append_b rfl _ _ rfl (.slice (some ⟨wc.heap.size, 0, none⟩) 0 0) (.slice (some ⟨g, off + (a + 8), none⟩) (B.length - (a + 8)) (c0 - (a + 8))) rfl rfl (l := []) (m := B.drop (a + 8)) (SB_none wc) HY.out HLN.out ?_; intro A9 n9 c9 W9 hn9 hs9 hc9 hg9)
            go_meet
            case rel => exact ⟨A9, n9, c9, rfl, by rw [HT.out]; exact hs9, hS2.trans hc9 (fun k hk => .inr (by simp [own, Value.ownBlock] at hk; omega))⟩
      obtain ⟨A5, n5, c5, rfl, hs5, hc5⟩ := hcut
      have n5l : n5 = (textR N0 B).length := (RB_cap hs5.re).1
      subst n5l
      have HTL := hide (show (textR N0 B).length ≤ 100000 by
        rw [HTE.out]
        have := HL.out
        split
        · rw [List.length_drop]; omega
        · simp)
      have HMC := hide (show M.length = cntK N0 from HNM.out.trans HRL.out)
      have hw8 : IntKind.u8.wrap (N0 : Int) = (N0 : Int) := by rw [IntKind.wrap_u8]; have := HK8.out; omega
      have HC5 := hide (HCw.out.stay hc5)
      have HB5 := hide (KB.stay HB4.out hc5)
      have HS5 := hide hs5
      have HM5 := hide (HSM.out.stay hc5)
      have hxk : (rX B).l = textR N0 B := by rw [HXE.out]; exact ofK_l _ _ _
      have HXL := hide hxk
      clear hs5 hc5 hxk HCw HB4 HSM
      go_wp2_with fail
      refine (Of_any HM5.out HMC.out HNU.out HK8.out (textR N0 B) A5 (textR N0 B).length c5).mono ?_
      rintro e W4 ⟨rfl, hc4⟩
      have HC4 := hide (HC5.out.stay hc4)
      have HB4 := hide (KB.stay HB5.out hc4)
      have HS4 := hide (HS5.out.stay hc4)
      rw [← HXE.out]
      clear hc4 HC5 HB5 HS5 HM5
      have hV : (textR N0 B).length = (rX B).l.length := by rw [HXL.out]
      rw [hV]
      rw [hV, ← HXL.out] at HS4
      rw [← HXL.out] at HTL
      have HRO := hide (fun h : rokR B = true => rRead_ok h)
      generalize rX B = x at *
      go_upto_region 17 with (first | (refine wpList_alloc34 rfl rfl ?_; try go_simp) | (refine wpList_store34 (b := W4.heap.size) (y := x) (u := .slice A5 x.l.length c5) rfl _ _ rfl rfl rfl rfl (Blk.new W4 _ _) ?_; intro W6 h6 hc6))
      have HX6 := hide h6
      have HC6 := hide (HC4.out.stay (made_kb hc6))
      have HB6 := hide (KB.stay HB4.out (made_kb hc6))
      have HS6 := hide (HS4.out.stay (made_kb hc6))
      have hok := HOK.out
      clear hc6 h6 HC4 HB4 HS4 HOK
      have hS : Chg [] W6 W6.drew := (Chg.refl [] W6).drew
      have HCB := hide (fun W (h : Chg [] W6 W) => run_str (HV.out.stay (HC6.out.stay h)) H8.out)
      have HM := hide (fun W (h : Chg [] W6 W) => rMayK_any HXOK.out (HS6.out.re.stay h))
      cases hm : mayR x with
      | false =>
        have hno : rokR B = false := by rw [hok, hm]; rfl
        obtain rfl : R = zCl := by rw [HRE.out.1]; exact (rRead_no hno).1
        obtain rfl : E = 5 := by rw [HRE.out.2]; exact (rRead_no hno).2
        rw [hm] at HM
        clear hno hok hm
        refine wp_region_g [5,6,0,0,5,6,6,0,5,0,0] [none, none, none, none, some (64, false), some (64, false), some (64, false), some (64, false), some (64, false), some (64, false), none] [[0,1,2,3,7,8,4,5,6,9,10]] (fun W => Chg [] W6 W) (by kernel_rfl) (by kernel_rfl) (by kernel_rfl) (by kernel_rfl) (fun L9 hL9 => ?_)
        obtain rfl := List.mem_singleton.1 hL9
        simp only [picks, List.filterMap_cons, List.filterMap_nil, List.getElem?_cons_succ, List.getElem?_cons_zero]
        go_wp2_with (first | (refine wpG_hload 34 _ rfl rfl (fun w' hw' => KB.load (KB.stay HX6.out hw')) hS ?_) | (refine wpG_calc rfl (fun K hK => ?_)) | (refine wpG_skip ?_ ?_; (focus (simp [wantG]; done)); go_simp) | (refine wpG_take ?_ ?_; (focus (simp [wantG]; done))) | (refine wpG_pure (fun K hK => ?_); go_simp; refine hK _ _ ?_; clear hK K) | (refine wpG_deed (by decide) (fun K hK => ?_); go_simp) | (refine wpG_nil ?_))
        (refine wpG_keeps hS (fun K hK => ?_))
        go_simp
        refine (HM.out W6.drew hS).mono ?_
        rintro e W7 ⟨rfl, hc7⟩
        have hS7 : Chg [] W6 W7 := hS.stay hc7
        refine hK _ _ hS7 ?_
        clear hK K hc7
        have HB7 := hide (KB.stay HB6.out hS7)
        go_wp2_with (first | (refine wpList_build34 rfl _ rfl D0.out ?_ ?_; (focus (simp [Act.eval]; done))) | (refine wpList_store34 (b := b2) (y := zCl) (u := zV) rfl _ _ rfl rfl rfl rfl HB7.out ?_; intro W9 h9 hc9) | (refine wpG_calc rfl (fun K hK => ?_)) | (refine wpG_skip ?_ ?_; (focus (simp [wantG]; done)); go_simp) | (refine wpG_take ?_ ?_; (focus (simp [wantG]; done))) | (refine wpG_pure (fun K hK => ?_); go_simp; refine hK _ _ ?_; clear hK K) | (refine wpG_deed (by decide) (fun K hK => ?_); go_simp) | (refine wpG_nil ?_))
        refine bodyPost_ret (v := .tuple #[.agg (clc zCl zV), .int .i64 5]) (results_two (p := 2) (q := 3) rfl _ rfl h9) rfl ⟨⟨none, 0, 0, rfl, RE.nil _ _ _ _ _⟩, ?_⟩
        exact (HC6.out.stay hS7).trans hc9 (fun y hy => .inr (by obtain rfl := List.mem_singleton.1 hy; have := HE.out; omega))
      | true =>
        rw [hm] at HM
        rw [hm, Bool.true_and] at hok
        have h8e := encR_b8 HXOK.out
        have hsl := strB_list h8e H8.out
        have HOK := hide hok
        have H8E := hide h8e
        clear hok h8e hm
        cases he : decide (encR x = B) with
        | true =>
          have hyes : rokR B = true := by rw [HOK.out, of_decide_eq_true he]; simp
          have hRx : R = x := by rw [HRE.out.1]; exact (HRO.out hyes).1
          subst hRx
          obtain rfl : E = 0 := by rw [HRE.out.2]; exact (HRO.out hyes).2
          rw [he] at hsl
          clear hyes he
          generalize strB B = sy at HCB hsl
          generalize hsx : strB (encR R) = sx at hsl
          have HSX := hide hsx
          clear hsx
          refine wp_region_g [5,6,0,0,5,6,6,0,5,0,0] [none, none, none, none, some (64, false), some (64, false), some (64, false), some (64, false), some (64, false), some (64, false), none] [[0,1,2,3,7,8,4,5,6,9,10]] (fun W => Chg [] W6 W) (by kernel_rfl) (by kernel_rfl) (by kernel_rfl) (by kernel_rfl) (fun L9 hL9 => ?_)
          obtain rfl := List.mem_singleton.1 hL9
          simp only [picks, List.filterMap_cons, List.filterMap_nil, List.getElem?_cons_succ, List.getElem?_cons_zero]
          go_wp2_with (first | (refine wpG_hload 34 _ rfl rfl (fun w' hw' => KB.load (KB.stay HX6.out hw')) hS ?_) | (refine wpG_calc rfl (fun K hK => ?_)) | (refine wpG_skip ?_ ?_; (focus (simp [wantG]; done)); go_simp) | (refine wpG_take ?_ ?_; (focus (simp [wantG]; done))) | (refine wpG_pure (fun K hK => ?_); go_simp; refine hK _ _ ?_; clear hK K) | (refine wpG_deed (by decide) (fun K hK => ?_); go_simp) | (refine wpG_nil ?_))
          (refine wpG_keeps hS (fun K hK => ?_))
          go_simp
          refine (HM.out W6.drew hS).mono ?_
          rintro e W7 ⟨rfl, hc7⟩
          have hS7 : Chg [] W6 W7 := hS.stay hc7
          refine hK _ _ hS7 ?_
          clear hK K hc7
          go_wp2_with (first | (refine wpG_hload 34 _ rfl rfl (fun w' hw' => KB.load (KB.stay HX6.out hw')) hS7 ?_) | (refine wpG_hconv 32 9 _ rfl rfl HCB.out hS7 ?_) | (refine wpG_calc rfl (fun K hK => ?_)) | (refine wpG_skip ?_ ?_; (focus (simp [wantG]; done)); go_simp) | (refine wpG_take ?_ ?_; (focus (simp [wantG]; done))) | (refine wpG_pure (fun K hK => ?_); go_simp; refine hK _ _ ?_; clear hK K) | (refine wpG_deed (by decide) (fun K hK => ?_); go_simp) | (refine wpG_nil ?_))
          (refine wpG_keeps hS7 (fun K hK => ?_))
          go_simp
          refine (rBytes_any HXOK.out HTL.out (HS6.out.stay hS7).re).mono ?_
          rintro e W8 ⟨⟨A8, n8, k8, rfl, hs8, -⟩, hc8⟩
          have hS8 : Chg [] W6 W8 := hS7.stay hc8
          refine hK _ _ hS8 ?_
          clear hK K hc8
          have hcx := run_str hs8.re H8E.out
          rw [HSX.out] at hcx
          have HB8 := hide (KB.stay HB6.out hS8)
          have HX8 := hide (KB.stay HX6.out hS8)
          clear hs8
          go_wp2_with (first | fail | (refine wpG_calc rfl (fun K hK => ?_)) | (refine wpG_skip ?_ ?_; (focus (simp [wantG]; done)); go_simp) | (refine wpG_take ?_ ?_; (focus (simp [wantG]; done))) | (refine wpG_pure (fun K hK => ?_); go_simp; refine hK _ _ ?_; clear hK K) | (refine wpG_deed (by decide) (fun K hK => ?_); go_simp) | (refine wpG_nil ?_))
          (refine wpG_keeps hS8 (fun K hK => ?_))
          go_simp
          refine hK _ _ hS8 ?_
          clear hK K
          go_wp2_with (first | (refine wpList_load34 rfl _ rfl rfl HX8.out ?_) | (refine wpList_store34 (b := b2) (y := R) (u := .slice A5 R.l.length c5) rfl _ _ rfl rfl rfl rfl HB8.out ?_; intro W9 h9 hc9) | (refine wpG_calc rfl (fun K hK => ?_)) | (refine wpG_skip ?_ ?_; (focus (simp [wantG]; done)); go_simp) | (refine wpG_take ?_ ?_; (focus (simp [wantG]; done))) | (refine wpG_pure (fun K hK => ?_); go_simp; refine hK _ _ ?_; clear hK K) | (refine wpG_deed (by decide) (fun K hK => ?_); go_simp) | (refine wpG_nil ?_))
          refine bodyPost_ret (v := .tuple #[.agg (clc R (.slice A5 R.l.length c5)), .int .i64 0]) (results_two (p := 2) (q := 3) rfl _ rfl h9) rfl ⟨⟨A5, R.l.length, c5, rfl, ?_⟩, ?_⟩
          · exact ((HS6.out.stay hS8).chg hc9 (fun k hk hk' => SB.not_call (HS6.out.stay hS8) HB8.out (by obtain rfl := List.mem_singleton.1 hk'; exact hk))).re
          · exact (HC6.out.stay hS8).trans hc9 (fun y hy => .inr (by obtain rfl := List.mem_singleton.1 hy; have := HE.out; omega))
        | false =>
          have hno : rokR B = false := by rw [HOK.out]; exact beq_false_of_ne (of_decide_eq_false he)
          obtain rfl : R = zCl := by rw [HRE.out.1]; exact (rRead_no hno).1
          obtain rfl : E = 5 := by rw [HRE.out.2]; exact (rRead_no hno).2
          rw [he] at hsl
          clear hno he
          generalize strB B = sy at HCB hsl
          generalize hsx : strB (encR x) = sx at hsl
          have HSX := hide hsx
          clear hsx
          refine wp_region_g [5,6,0,0,5,6,6,0,5,0,0] [none, none, none, none, some (64, false), some (64, false), some (64, false), some (64, false), some (64, false), some (64, false), none] [[0,1,2,3,7,8,4,5,6,9,10]] (fun W => Chg [] W6 W) (by kernel_rfl) (by kernel_rfl) (by kernel_rfl) (by kernel_rfl) (fun L9 hL9 => ?_)
          obtain rfl := List.mem_singleton.1 hL9
          simp only [picks, List.filterMap_cons, List.filterMap_nil, List.getElem?_cons_succ, List.getElem?_cons_zero]
          go_wp2_with (first | (refine wpG_hload 34 _ rfl rfl (fun w' hw' => KB.load (KB.stay HX6.out hw')) hS ?_) | (refine wpG_calc rfl (fun K hK => ?_)) | (refine wpG_skip ?_ ?_; (focus (simp [wantG]; done)); go_simp) | (refine wpG_take ?_ ?_; (focus (simp [wantG]; done))) | (refine wpG_pure (fun K hK => ?_); go_simp; refine hK _ _ ?_; clear hK K) | (refine wpG_deed (by decide) (fun K hK => ?_); go_simp) | (refine wpG_nil ?_))
          (refine wpG_keeps hS (fun K hK => ?_))
          go_simp
          refine (HM.out W6.drew hS).mono ?_
          rintro e W7 ⟨rfl, hc7⟩
          have hS7 : Chg [] W6 W7 := hS.stay hc7
          refine hK _ _ hS7 ?_
          clear hK K hc7
          go_wp2_with (first | (refine wpG_hload 34 _ rfl rfl (fun w' hw' => KB.load (KB.stay HX6.out hw')) hS7 ?_) | (refine wpG_hconv 32 9 _ rfl rfl HCB.out hS7 ?_) | (refine wpG_calc rfl (fun K hK => ?_)) | (refine wpG_skip ?_ ?_; (focus (simp [wantG]; done)); go_simp) | (refine wpG_take ?_ ?_; (focus (simp [wantG]; done))) | (refine wpG_pure (fun K hK => ?_); go_simp; refine hK _ _ ?_; clear hK K) | (refine wpG_deed (by decide) (fun K hK => ?_); go_simp) | (refine wpG_nil ?_))
          (refine wpG_keeps hS7 (fun K hK => ?_))
          go_simp
          refine (rBytes_any HXOK.out HTL.out (HS6.out.stay hS7).re).mono ?_
          rintro e W8 ⟨⟨A8, n8, k8, rfl, hs8, -⟩, hc8⟩
          have hS8 : Chg [] W6 W8 := hS7.stay hc8
          refine hK _ _ hS8 ?_
          clear hK K hc8
          have hcx := run_str hs8.re H8E.out
          rw [HSX.out] at hcx
          have HB8 := hide (KB.stay HB6.out hS8)
          have HX8 := hide (KB.stay HX6.out hS8)
          clear hs8
          go_wp2_with (first | fail | (refine wpG_calc rfl (fun K hK => ?_)) | (refine wpG_skip ?_ ?_; (focus (simp [wantG]; done)); go_simp) | (refine wpG_take ?_ ?_; (focus (simp [wantG]; done))) | (refine wpG_pure (fun K hK => ?_); go_simp; refine hK _ _ ?_; clear hK K) | (refine wpG_deed (by decide) (fun K hK => ?_); go_simp) | (refine wpG_nil ?_))
          (refine wpG_keeps hS8 (fun K hK => ?_))
          go_simp
          refine hK _ _ hS8 ?_
          clear hK K
          go_wp2_with (first | (refine wpList_build34 rfl _ rfl D0.out ?_ ?_; (focus (simp [Act.eval]; done))) | (refine wpList_store34 (b := b2) (y := zCl) (u := zV) rfl _ _ rfl rfl rfl rfl HB8.out ?_; intro W9 h9 hc9) | (refine wpG_calc rfl (fun K hK => ?_)) | (refine wpG_skip ?_ ?_; (focus (simp [wantG]; done)); go_simp) | (refine wpG_take ?_ ?_; (focus (simp [wantG]; done))) | (refine wpG_pure (fun K hK => ?_); go_simp; refine hK _ _ ?_; clear hK K) | (refine wpG_deed (by decide) (fun K hK => ?_); go_simp) | (refine wpG_nil ?_))
          refine bodyPost_ret (v := .tuple #[.agg (clc zCl zV), .int .i64 5]) (results_two (p := 2) (q := 3) rfl _ rfl h9) rfl ⟨⟨none, 0, 0, rfl, RE.nil _ _ _ _ _⟩, ?_⟩
          exact (HC6.out.stay hS8).trans hc9 (fun y hy => .inr (by obtain rfl := List.mem_singleton.1 hy; have := HE.out; omega))
end Go.Proofs.YtinlpjgjjplceaaDoor
