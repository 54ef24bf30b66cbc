import Derived.Test.YtbmdcfeiecmlpaaKepB
import Derived.Deep.CutBlock
import Derived.Deep.CutRange
namespace Go.Proofs.Ytbmdcfeiecmlpaa
open Go Go.RowKit

theorem RI_two (W : World) (a b : Int) : RI ((W.alloc (.cells #[.int .i64 a, .int .i64 b] 28)).alloc (.cells #[.int .i64 a] 3)) (.slice (some ⟨W.heap.size + 1, 0, none⟩) 1 1) [a] := by
  have h := RI_one (W.alloc (.cells #[.int .i64 a, .int .i64 b] 28)) a
  unfold RI at h ⊢
  simpa using h
set_option maxRecDepth 20000 in
set_option maxHeartbeats 4000000 in
theorem keeps_any {w : World} {v : Value} {ops : List AOp} (x : Int) (hl : ROps w v ops) : Calls Try.prog 7 #[.int .i64 x, v] w fun e w' => e = .returned (.bool true) ∧ Chg [] w w' := by
  obtain ⟨A, c, rfl⟩ := hl.form
  by_cases hbig : 200 < ops.length
  · go_enter Try.func7, Try.ntmps7
    go_wp2_with (go_at_call 22; refine (known_any _).mono ?_; rintro e w1 ⟨rfl, hc1⟩)
    go_ret
    exact ⟨rfl, hc1⟩
  have hcl := clamp_le x
  obtain ⟨r, hr⟩ : ∃ r, clamp x = r := ⟨_, rfl⟩
  rw [hr] at hcl
  have hnew := ks_new x w
  rw [hr] at hnew
  have HN := hide hnew
  clear hnew hr
  obtain ⟨hr1, hr2⟩ := hcl
  have hlen : ops.length ≤ 200 := by omega
  clear hbig
  have hd : decide (200 < (ops.length : Int)) = false := by simp; omega
  go_enter Try.func7, Try.ntmps7
  go_wp2_with (go_at_call 23; refine HN.out.mono ?_; rintro e w1 ⟨p, F1, rfl, h1⟩)
  clear HN
  go_loopw [32, 6, 7, 8] (fun i nx vi vo wr => ∃ (k n : Nat) (s : List Ob) (F : List Nat) (Ai : Option Addr) (ci : Nat) (I : List Int) (Ao : Option Addr) (co : Nat) (O : List Int), k ≤ ops.length ∧ i = .int .i64 k ∧ nx = .int .i64 n ∧ n ≤ 40 * k ∧ vi = .slice Ai I.length ci ∧ vo = .slice Ao O.length co ∧ KS w wr p r s F (.slice Ai I.length ci) I (.slice Ao O.length co) O (.slice none 0 0) [] (.slice none 0 0) [] ∧ Hid (Good s I O n)) (fun i _ _ _ _ => ops.length - (intOf i).toNat)
  case atStart => exact ⟨0, 0, [], F1, none, 0, [], none, 0, [], Nat.zero_le _, rfl, rfl, by omega, rfl, rfl, h1, Good.nil⟩
  case round =>
    obtain ⟨k, n, s, F, Ai, ci, I, Ao, co, O, hk, rfl, rfl, hn, rfl, rfl, h2, hgood⟩ := hrel
    clear h1
    by_cases hlt : k < ops.length
    · obtain ⟨g, off, rfl⟩ := hl.addr hlt
      obtain ⟨x0, x1, x2, x3, hro, hg⟩ := (hl.chg h2.chg).cells hlt
      have hro0 := ((hl.cells hlt).2.2.2.2.1)
      obtain ⟨A2, c2, hv2⟩ := hro0.form
      rw [hv2] at hro0 hro x3
      clear x1 x2
      have hIl : I.length ≤ n := hgood.out.len
      have hOl : O.length ≤ n := by have := hgood.out.sum; omega
      go_upto_block 2 with (fail)
      generalize ops[k].k = kk at x0 hv2 ⊢
      generalize ops[k].l = L at hro hro0 x3 hv2 ⊢
      have HV := hide hv2
      clear hv2
      go_cut [6, 7, 8] from 40 to 128 (fun nx vi vo wc => ∃ (n : Nat) (s : List Ob) (F : List Nat) (Ai : Option Addr) (ci : Nat) (I : List Int) (Ao : Option Addr) (co : Nat) (O : List Int), nx = .int .i64 n ∧ n ≤ 40 * (k + 1) ∧ vi = .slice Ai I.length ci ∧ vo = .slice Ao O.length co ∧ KS w wc p r s F (.slice Ai I.length ci) I (.slice Ao O.length co) O (.slice none 0 0) [] (.slice none 0 0) [] ∧ Hid (Good s I O n))
      case rest =>
        obtain ⟨n', s', F', Ai', ci', I', Ao', co', O', rfl, hn', rfl, rfl, h3, hgood'⟩ := hcut
        have e1 := hgood'.out.sum
        have e2 := h3.stk.len.1
        have hIl' : I'.length ≤ n' := hgood'.out.len
        have d1 : ((s'.length : Int) != (I'.length : Int) - (O'.length : Int)) = false := by simp; omega
        have d2 : decide (2 * (r : Int) < (s'.length : Int)) = false := by simp; omega
        have E1 := hide e1
        clear e1 e2
        have hIO : O'.length ≤ I'.length := by have := E1.out; omega
        go_wp2_with fail
        refine (ks_len h3).mono ?_
        rintro e W4 ⟨rfl, h4⟩
        go_wp2_with (first | (go_at_call 26; refine (ks_len h4).mono ?_; rintro e W5 ⟨rfl, h5⟩) | (go_at_call 27; refine (ks_rounds h5).mono ?_; rintro e w' ⟨rfl, rfl⟩))
        go_roundw
        case rel => exact ⟨k + 1, n', s', F', Ai', ci', I', Ao', co', O', by omega, by go_num, rfl, hn', rfl, rfl, h5, hgood'⟩
        case measure => simp [intOf]; omega
      case first =>
        have HlI : Hid (I.length + 1 ≤ 1000000) := hide (by omega)
        have HlO : Hid (O.length + 1 ≤ 1000000) := hide (by omega)
        by_cases hk0 : kk = 0
        · subst hk0
          by_cases hsl : s.length < 2 * r
          · go_wp2_with (first | (go_at_call 24; refine (ks_put h2 _ _ hsl).mono ?_; rintro e W3 ⟨rfl, F3, h3⟩) | (at_builtin; refine wpList_append_in rfl _ _ rfl (.slice Ai I.length ci) _ rfl rfl (Sl.alloc h3.si _) (RI_one W3 ((n : Int) + 1)) HlI.out ?_; intro A9 c9 W9 hs9 hc9 ho9))
            go_meet
            case rel => exact ⟨n + 1, _, F3, A9, c9, I ++ [(n : Int) + 1], Ao, co, O, by go_num, by omega, by simp, rfl, (h3.later ((Chg.refl _ _).alloc _)).pushI hs9 hc9 ho9, hide (hgood.out.put 0)⟩
          · go_wp2_with (go_at_call 24; refine (ks_put_no h2 _ _ (by omega)).mono ?_; rintro e W3 ⟨rfl, h3⟩)
            go_meet
            case rel => exact ⟨n + 1, s, F, Ai, ci, I, Ao, co, O, by go_num, by omega, rfl, rfl, h3, hide (hgood.out.up (by omega))⟩
        by_cases hk1 : kk = 1
        · subst hk1
          rcases List.eq_nil_or_concat s with rfl | ⟨s', ⟨a, b⟩, rfl⟩
          · go_wp2_with (go_at_call 25; refine (ks_get_no h2).mono ?_; rintro e W3 ⟨rfl, h3⟩)
            go_meet
            case rel => exact ⟨n, [], F, Ai, ci, I, Ao, co, O, rfl, by omega, rfl, rfl, h3.later ((Chg.refl _ _).alloc _), hgood⟩
          · rw [List.concat_eq_append] at h2 hgood
            go_wp2_with (first | (go_at_call 25; refine (ks_get h2).mono ?_; rintro e W3 ⟨rfl, h3⟩) | (at_builtin; refine wpList_append_in rfl _ _ rfl (.slice Ao O.length co) _ rfl rfl (Sl.alloc (Sl.alloc h3.so _) _) (RI_two W3 a b) HlO.out ?_; intro A9 c9 W9 hs9 hc9 ho9))
            go_meet
            case rel => exact ⟨n, s', F, Ai, ci, I, A9, c9, O ++ [a], rfl, by omega, rfl, by simp, (h3.later (((Chg.refl _ _).alloc _).alloc _)).pushO hs9 hc9 ho9, hide hgood.out.get⟩
        by_cases hk2 : kk = 2
        · subst hk2
          go_wp2_with fail
          obtain ⟨wo, rfl⟩ : ∃ wo : World, wo = wr := ⟨_, rfl⟩
          go_loopw [6, 12, 13, 14] (fun t6 t12 t13 t14 wi => ∃ (j : Nat) (Am : Option Addr) (cm : Nat) (Ax : Option Addr) (cx : Nat), j ≤ 40 ∧ j ≤ L.length ∧ t6 = .int .i64 ((n : Int) + (j : Int)) ∧ t14 = .int .i64 j ∧ t12 = .slice Am (numo n j).length cm ∧ t13 = .slice Ax (nums n j).length cx ∧ KS w wi p r s F (.slice Ai I.length ci) I (.slice Ao O.length co) O (.slice Ax (nums n j).length cx) (nums n j) (.slice Am (numo n j).length cm) (numo n j)) (fun _ _ _ t14 _ => 40 - (intOf t14).toNat)
          case atStart => exact ⟨0, none, 0, none, 0, by omega, Nat.zero_le _, by simp, rfl, rfl, rfl, h2⟩
          case round =>
            obtain ⟨j, Am, cm, Ax, cx, hj40, hjL, rfl, rfl, rfl, rfl, h3⟩ := hrel
            obtain ⟨_, _, _, x3', _, hg'⟩ := (hl.chg h3.chg).cells hlt
            rw [HV.out] at x3'
            by_cases hjc : j < L.length ∧ j < 40
            · obtain ⟨hj1, hj2⟩ := hjc
              have HlM : Hid ((numo n j).length + 1 ≤ 1000000) := hide (by rw [numo_length]; omega)
              have HlX : Hid ((nums n j).length + 1 ≤ 1000000) := hide (by rw [nums_length]; omega)
              go_wp2_with (first | (at_builtin; refine wpList_append_ob rfl _ _ rfl (.slice Am (numo n j).length cm) _ rfl rfl (Sl.alloc h3.sm _) (RO_one wr ((n : Int) + (j : Int) + 1) 0) HlM.out ?_; intro A8 c8 W8 hs8 hc8 ho8; have h4 := (h3.later ((Chg.refl _ _).alloc _)).pushM hs8 hc8 ho8) | (at_builtin; refine wpList_append_in rfl _ _ rfl (.slice Ax (nums n j).length cx) _ rfl rfl (Sl.alloc h4.sx _) (RI_one W8 ((n : Int) + (j : Int) + 1)) HlX.out ?_; intro A9 c9 W9 hs9 hc9 ho9))
              go_roundw
              case rel =>
                have h5 := (h4.later ((Chg.refl _ _).alloc _)).pushX hs9 hc9 ho9
                rw [← numo_succ, ← nums_succ] at h5
                exact ⟨j + 1, A8, c8, A9, c9, by omega, by omega, by rw [Int.natCast_add, ← Int.add_assoc]; rfl, by go_num, by rw [numo_succ, List.length_append]; rfl, by rw [nums_succ, List.length_append]; rfl, h5⟩
              case measure => simp [intOf]; omega
            · have hjj : ¬ j < L.length ∨ (j < L.length ∧ ¬ j < 40) := by omega
              have hlM : (numo n j).length ≤ 1000 := by rw [numo_length]; omega
              have HlM := hide hlM
              have HlX : Hid (I.length + (nums n j).length ≤ 1000000) := hide (by rw [nums_length]; omega)
              clear hjc hlM
              by_cases hz : loadE r s (numo n j) = 0
              · obtain rfl := loadE_nil hz
                have HE := hide (ks_load h3 h3.sm.ro HlM.out 0 hz)
                rw [if_pos rfl] at HE
                clear hz
                rcases hjj with hjj | ⟨hjj, hjj2⟩
                all_goals
                  go_wp2_with (first | (go_at_call 31; refine HE.out.mono ?_; rintro e W5 ⟨rfl, F5, h5⟩) | (at_builtin; refine wpList_append_in rfl _ _ rfl (.slice Ai I.length ci) (.slice Ax (nums n j).length cx) rfl rfl h5.si h5.sx.ri HlX.out ?_; intro A9 c9 W9 hs9 hc9 ho9))
                  go_meet
                  case rel => exact ⟨n + j, _, F5, A9, c9, I ++ nums n j, Ao, co, O, by go_num, by omega, by rw [List.length_append], rfl, ((h5.pushI hs9 hc9 ho9).noX).noM, hide (hgood.out.load j)⟩
              · obtain ⟨z, hzz⟩ : ∃ z, loadE r s (numo n j) = z := ⟨_, rfl⟩
                rw [hzz] at hz
                have HE := hide (ks_load h3 h3.sm.ro HlM.out z hzz)
                rw [if_neg hz] at HE
                have hz0 : (z == 0) = false := beq_eq_false_iff_ne.2 hz
                clear hz hzz
                rcases hjj with hjj | ⟨hjj, hjj2⟩
                all_goals
                  go_wp2_with (go_at_call 31; refine HE.out.mono ?_; rintro e W5 ⟨rfl, F5, h5⟩)
                  go_meet
                  case rel => exact ⟨n + j, s, F5, Ai, ci, I, Ao, co, O, by go_num, by omega, rfl, rfl, (h5.noX).noM, hide (hgood.out.up (by omega))⟩
        by_cases hk3 : kk = 3
        · subst hk3
          by_cases hfull : s.length = 2 * r
          · have elt : (s.take r).length = r := by rw [List.length_take]; omega
            have Helt := hide elt
            have HF := hide hfull
            have hsO : O.length + r ≤ 20000 := by omega
            clear elt hfull
            go_wp2_with (first | (go_at_call 33; refine (ks_unload h2 HF.out).mono ?_; rintro e W3 ⟨A3, c3, F3, rfl, h3⟩) | (go_at_call 27; refine (ks_rounds h3).mono ?_; rintro e w' ⟨rfl, rfl⟩))
            obtain ⟨wo, rfl⟩ : ∃ wo : World, wo = W3 := ⟨_, rfl⟩
            obtain ⟨T, hT0⟩ : ∃ T, T = s.take r := ⟨_, rfl⟩
            rw [← hT0] at h3 Helt
            have hT := hide hT0
            clear hT0
            go_loopw [117, 8] (fun t117 t8 wi => ∃ (j : Nat) (Aj : Option Addr) (cj : Nat), j ≤ r ∧ t117 = .int .i64 j ∧ t8 = .slice Aj (O ++ (T.take j).map Prod.fst).length cj ∧ KS w wi p r (s.drop r) F3 (.slice Ai I.length ci) I (.slice Aj (O ++ (T.take j).map Prod.fst).length cj) (O ++ (T.take j).map Prod.fst) (.slice none 0 0) [] (.slice A3 r c3) T) (fun t117 _ _ => r - (intOf t117).toNat)
            case atStart => exact ⟨0, Ao, co, by omega, rfl, by simp, by simpa using h3⟩
            case round =>
              obtain ⟨j, Aj, cj, hj, rfl, rfl, h4⟩ := hrel
              by_cases hjt : j < r
              · obtain ⟨g3, o3, rfl⟩ := SO.addr h4.sm (by omega)
                have hjT : j < T.length := by rw [Helt.out]; exact hjt
                obtain ⟨e0, he0⟩ : ∃ e0, e0 = T[j].1 := ⟨_, rfl⟩
                have q0 := (RO.cellsN h4.sm.ro (k := j) hjT).1
                rw [← he0] at q0
                have HlO2 : Hid ((O ++ (T.take j).map Prod.fst).length + 1 ≤ 1000000) := hide (by rw [List.length_append, List.length_map, List.length_take]; omega)
                have hsn : (T.take (j + 1)).map Prod.fst = (T.take j).map Prod.fst ++ [e0] := by rw [List.take_succ_eq_append_getElem hjT, List.map_append, he0]; rfl
                have HSn := hide hsn
                clear he0 hsn
                generalize hP : O ++ (T.take j).map Prod.fst = P at h4 HlO2 ⊢
                have HP := hide hP
                clear hP
                go_wp2_with (at_builtin; refine wpList_append_in rfl _ _ rfl (.slice Aj P.length cj) _ rfl rfl (Sl.alloc h4.so _) (RI_one wr e0) HlO2.out ?_; intro A9 c9 W9 hs9 hc9 ho9)
                go_roundw
                case rel =>
                  have h5 := (h4.later ((Chg.refl _ _).alloc _)).pushO hs9 hc9 ho9
                  have eP : P ++ [e0] = O ++ (T.take (j + 1)).map Prod.fst := by rw [HSn.out, ← List.append_assoc, HP.out]
                  rw [eP] at h5
                  exact ⟨j + 1, A9, c9, by omega, by go_num, by rw [← eP, List.length_append]; rfl, h5⟩
                case measure => simp [intOf]; omega
              · have hjr : ¬ j < r := hjt
                go_wp2_with fail
                go_meet
                case rel =>
                  have ej : T.take j = T := List.take_of_length_le (by rw [Helt.out]; omega)
                  rw [ej] at h4
                  exact ⟨n, s.drop r, F3, Ai, ci, I, Aj, cj, O ++ T.map Prod.fst, rfl, by omega, rfl, by (have e1 := Helt.out; have e2 : j = r := (by omega); simp [e1, e2]), h4.noM, hide (by rw [hT.out]; exact hgood.out.take r)⟩
          · have hlt2 : s.length < 2 * r := by have := h2.stk.len.1; omega
            clear hfull
            go_wp2_with (go_at_call 33; refine (ks_unload_no h2 hlt2).mono ?_; rintro e W1 ⟨rfl, rfl⟩)
            obtain ⟨wo, rfl⟩ : ∃ wo : World, wo = wr := ⟨_, rfl⟩
            go_loopw [117, 8] (fun t117 t8 wi => t117 = .int .i64 0 ∧ t8 = .slice Ao O.length co ∧ KS w wi p r s F (.slice Ai I.length ci) I (.slice Ao O.length co) O (.slice none 0 0) [] (.slice none 0 0) []) (fun _ _ _ => 0)
            case atStart => exact ⟨rfl, rfl, h2⟩
            case round =>
              obtain ⟨rfl, rfl, h4⟩ := hrel
              go_wp2_with fail
              go_meet
              case rel => exact ⟨n, s, F, Ai, ci, I, Ao, co, O, rfl, by omega, rfl, rfl, h4, hgood⟩
        · go_wp2_with fail
          go_meet
          case rel => exact ⟨n, s, F, Ai, ci, I, Ao, co, O, rfl, by omega, rfl, rfl, h2, hgood⟩
    · have hkn : ¬ k < ops.length := hlt
      have hIl : I.length ≤ n := hgood.out.len
      have hOl : O.length ≤ n := by have := hgood.out.sum; omega
      have hn8 : n ≤ 8000 := by omega
      have hsO : O.length + s.length ≤ 8000 := by have := hgood.out.sum; omega
      go_wp2_with fail
      refine (ks_all h2).mono ?_
      rintro e W7 ⟨A7, c7, rfl, h7⟩
      go_wp2_with fail
      obtain ⟨wo, rfl⟩ : ∃ wo : World, wo = wr := ⟨_, rfl⟩
      go_loopw [150, 8] (fun t150 t8 wi => ∃ (j : Nat) (Aj : Option Addr) (cj : Nat), j ≤ s.length ∧ t150 = .int .i64 j ∧ t8 = .slice Aj (O ++ (s.take j).map Prod.fst).length cj ∧ KS w wi p r s F (.slice Ai I.length ci) I (.slice Aj (O ++ (s.take j).map Prod.fst).length cj) (O ++ (s.take j).map Prod.fst) (.slice none 0 0) [] (.slice A7 s.length c7) s) (fun t150 _ _ => s.length - (intOf t150).toNat)
      case atStart => exact ⟨0, Ao, co, by omega, rfl, by simp, by simpa using h7⟩
      case round =>
        obtain ⟨j, Aj, cj, hj, rfl, rfl, h4⟩ := hrel
        by_cases hjt : j < s.length
        · obtain ⟨g3, o3, rfl⟩ := SO.addr h4.sm (by omega)
          obtain ⟨e0, he0⟩ : ∃ e0, e0 = s[j].1 := ⟨_, rfl⟩
          have q0 := (RO.cellsN h4.sm.ro (k := j) hjt).1
          rw [← he0] at q0
          have HlO2 : Hid ((O ++ (s.take j).map Prod.fst).length + 1 ≤ 1000000) := hide (by rw [List.length_append, List.length_map, List.length_take]; omega)
          have hsn : (s.take (j + 1)).map Prod.fst = (s.take j).map Prod.fst ++ [e0] := by rw [List.take_succ_eq_append_getElem hjt, List.map_append, he0]; rfl
          have HSn := hide hsn
          clear he0 hsn
          generalize hP : O ++ (s.take j).map Prod.fst = P at h4 HlO2 ⊢
          have HP := hide hP
          clear hP
          go_wp2_with (at_builtin; refine wpList_append_in rfl _ _ rfl (.slice Aj P.length cj) _ rfl rfl (Sl.alloc h4.so _) (RI_one wr e0) HlO2.out ?_; intro A9 c9 W9 hs9 hc9 ho9)
          go_roundw
          case rel =>
            have h5 := (h4.later ((Chg.refl _ _).alloc _)).pushO hs9 hc9 ho9
            have eP : P ++ [e0] = O ++ (s.take (j + 1)).map Prod.fst := by rw [HSn.out, ← List.append_assoc, HP.out]
            rw [eP] at h5
            exact ⟨j + 1, A9, c9, by omega, by go_num, by rw [← eP, List.length_append]; rfl, h5⟩
          case measure => simp [intOf]; omega
        · have ej : s.take j = s := List.take_of_length_le (by omega)
          rw [ej] at h4 ⊢
          have hperm : (O ++ s.map Prod.fst).Perm I := List.perm_append_comm.trans hgood.out.perm
          generalize hP : O ++ s.map Prod.fst = P at h4 hperm ⊢
          have hPl : P.length ≤ n := by have := hperm.length_eq; omega
          have HP := hide hperm
          have HG : Hid (∀ x ∈ I, 1 ≤ x ∧ x ≤ (n : Int)) := hide hgood.out.num
          clear hP hperm ej
          obtain ⟨i3, hi, hz, hi1, hi2⟩ := info_parts info3
          obtain ⟨hrun, hmk⟩ := run_make_sl (size := 1) Try.underlying56 hi hz hi1 rfl wr (n + 1) (by rw [hi2]; omega) (by unfold maxLen; omega)
          clear hi hz hi1 hi2
          have en : ((n + 1 : Nat) : Int) = (n : Int) + 1 := by omega
          rw [en] at hrun
          clear en
          go_wp2_with fail
          have hmk2 : SI (wr.alloc (.cells (madeCells #[.int .i64 0] (n + 1)) 3)) (.slice (some ⟨wr.heap.size, 0, none⟩) (n + 1) (n + 1)) (tally n [] []) := by
            rw [tally_made] at hmk
            have e : (Value.int .i64 0).cells = #[.int .i64 0] := rfl
            rw [e, Nat.mul_one] at hmk
            unfold SI
            rw [tally_length]
            exact hmk
          have h5 := h4.newX ((Chg.refl [] wr).alloc _) hmk2 (fun k hk => by rw [own_mem] at hk; simp [Value.ownBlock] at hk; omega)
          clear hmk hmk2 hrun
          generalize wr.alloc (.cells (madeCells #[.int .i64 0] (n + 1)) 3) = W8 at h5 ⊢
          generalize wr.heap.size = g8 at h5 ⊢
          go_loopw [167] (fun t wi => ∃ j : Nat, j ≤ I.length ∧ t = .int .i64 j ∧ KS w wi p r s F (.slice Ai I.length ci) I (.slice Aj P.length cj) P (.slice (some ⟨g8, 0, none⟩) (n + 1) (n + 1)) (tally n (I.take j) []) (.slice A7 s.length c7) s) (fun t _ => I.length - (intOf t).toNat)
          case atStart => exact ⟨0, by omega, rfl, by simpa using h5⟩
          case round =>
            obtain ⟨j, hj, rfl, h6⟩ := hrel
            by_cases hjt : j < I.length
            · obtain ⟨gi, oi, rfl⟩ := SI.addr h6.si (by omega)
              have q0 := RI.cell h6.si.ri hjt
              obtain ⟨m, hm, hm1, hmn⟩ : ∃ m : Nat, I[j] = (m : Int) ∧ 1 ≤ m ∧ m ≤ n := by
                have := HG.out _ (List.getElem_mem hjt)
                exact ⟨(I[j]).toNat, by omega, by omega, by omega⟩
              have hsn : I.take (j + 1) = I.take j ++ [(m : Int)] := by rw [List.take_succ_eq_append_getElem hjt, hm]
              have HSn := hide hsn
              rw [hm] at q0
              have hmt : m < (tally n (I.take j) []).length := by rw [tally_length]; omega
              obtain ⟨c0, hc0⟩ : ∃ c0, (tally n (I.take j) [])[m] = c0 := ⟨_, rfl⟩
              have hbd := tally_bd (n := n) (A := I.take j) (B := []) (by rw [List.length_take]; omega) (by simp) m hmt
              have q1 := RI.cell h6.sx.ri hmt
              rw [hc0] at q1 hbd
              obtain ⟨hb1, hb2⟩ := hbd
              rw [Nat.zero_add] at q1
              have q2 := SI.frozen h6.sx m
              have q3 : m < n + 1 := by omega
              have hset := SI.set_ h6.sx hmt (c0 + 1)
              rw [tally_addA n _ _ m hmt c0 hc0, Nat.zero_add, ← hsn] at hset
              have Hset := hide hset
              clear hm hsn hmt hc0 hset
              go_wp2_with fail
              go_roundw
              case rel => exact ⟨j + 1, by omega, by go_num, h6.appX Hset.out ((Chg.refl _ _).setCell (.inl (by simp [own, Value.ownBlock])) _) (fun k hk => .inl hk)⟩
              case measure => simp [intOf]; omega
            · have ejl : I.take j = I := List.take_of_length_le (by omega)
              rw [ejl] at h6
              clear ejl
              go_wp2_with fail
              have h7 := h6
              clear h6
              go_loopw [182] (fun t wi => ∃ j : Nat, j ≤ P.length ∧ t = .int .i64 j ∧ KS w wi p r s F (.slice Ai I.length ci) I (.slice Aj P.length cj) P (.slice (some ⟨g8, 0, none⟩) (n + 1) (n + 1)) (tally n I (P.take j)) (.slice A7 s.length c7) s) (fun t _ => P.length - (intOf t).toNat)
              case atStart => exact ⟨0, by omega, rfl, by simpa using h7⟩
              case round =>
                obtain ⟨j, hj, rfl, h6⟩ := hrel
                by_cases hjt : j < P.length
                · obtain ⟨gi, oi, rfl⟩ := SI.addr h6.so (by omega)
                  have q0 := RI.cell h6.so.ri hjt
                  obtain ⟨m, hm, hm1, hmn⟩ : ∃ m : Nat, P[j] = (m : Int) ∧ 1 ≤ m ∧ m ≤ n := by
                    have := HG.out _ (HP.out.mem_iff.1 (List.getElem_mem hjt))
                    exact ⟨(P[j]).toNat, by omega, by omega, by omega⟩
                  have hsn : P.take (j + 1) = P.take j ++ [(m : Int)] := by rw [List.take_succ_eq_append_getElem hjt, hm]
                  have HSn := hide hsn
                  rw [hm] at q0
                  have hmt : m < (tally n I (P.take j)).length := by rw [tally_length]; omega
                  obtain ⟨c0, hc0⟩ : ∃ c0, (tally n I (P.take j))[m] = c0 := ⟨_, rfl⟩
                  have hbd := tally_bd (n := n) (A := I) (B := P.take j) (by omega) (by rw [List.length_take]; omega) m hmt
                  have q1 := RI.cell h6.sx.ri hmt
                  rw [hc0] at q1 hbd
                  obtain ⟨hb1, hb2⟩ := hbd
                  rw [Nat.zero_add] at q1
                  have q2 := SI.frozen h6.sx m
                  have q3 : m < n + 1 := by omega
                  have hset := SI.set_ h6.sx hmt (c0 - 1)
                  rw [tally_addB n _ _ m hmt c0 hc0, Nat.zero_add, ← hsn] at hset
                  have Hset := hide hset
                  clear hm hsn hmt hc0 hset
                  go_wp2_with fail
                  go_roundw
                  case rel => exact ⟨j + 1, by omega, by go_num, h6.appX Hset.out ((Chg.refl _ _).setCell (.inl (by simp [own, Value.ownBlock])) _) (fun k hk => .inl hk)⟩
                  case measure => simp [intOf]; omega
                · have ejl : P.take j = P := List.take_of_length_le (by omega)
                  rw [ejl] at h6
                  clear ejl
                  go_wp2_with fail
                  have h9 := h6
                  clear h6
                  go_loopw [210] (fun t wi => ∃ j : Nat, j ≤ n + 1 ∧ t = .int .i64 j ∧ KS w wi p r s F (.slice Ai I.length ci) I (.slice Aj P.length cj) P (.slice (some ⟨g8, 0, none⟩) (n + 1) (n + 1)) (tally n I P) (.slice A7 s.length c7) s) (fun t _ => n + 1 - (intOf t).toNat)
                  case atStart => exact ⟨0, by omega, rfl, h9⟩
                  case round =>
                    obtain ⟨j, hj, rfl, h6⟩ := hrel
                    by_cases hjt : j < n + 1
                    · have hmt : j < (tally n I P).length := by rw [tally_length]; omega
                      have q1 := RI.cell h6.sx.ri hmt
                      rw [tally_perm HP.out, Nat.zero_add] at q1
                      clear hmt
                      go_wp2_with fail
                      go_roundw
                      case rel => exact ⟨j + 1, by omega, by go_num, h6⟩
                      case measure => simp [intOf]; omega
                    · go_wp2_with (go_at_call 22; refine (known_any _).mono ?_; rintro e W20 ⟨rfl, hc20⟩)
                      go_ret
                      exact ⟨rfl, h6.chg.trans hc20 (fun _ h => by cases h)⟩
end Go.Proofs.Ytbmdcfeiecmlpaa
