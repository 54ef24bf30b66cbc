import Derived.Test.YtbmdcfeiecmlpaaDKpD
import Derived.Deep.CutBlock
import Derived.Deep.CutRange
namespace Go.Proofs.Ytbmdcfeiecmlpaa
open Go Go.RowKit

theorem ts_new {w W W' : World} {d r : Nat} (hd : DMem 73 W d r [] [] [d]) (hw : w.heap.size ≤ d) (hc : Chg [] w W) :
    TS w ((W.alloc (.cells #[.int .i64 0] 3)).alloc (.cells #[.slice none 0 0] 56)) d r [] [] [d] (.slice none 0 0) [] (.slice none 0 0) [] (W.heap.size + 1) W.heap.size 0 := by
  have hd1 := hd.lt d hd.mem
  have hc2 : Chg [] W ((W.alloc (.cells #[.int .i64 0] 3)).alloc (.cells #[.slice none 0 0] 56)) := ((Chg.refl _ _).alloc _).alloc _
  have e : (W.alloc (.cells #[.int .i64 0] 3)).heap.size = W.heap.size + 1 := by simp
  have hno : ∀ k ∈ own (Value.slice none 0 0), w.heap.size ≤ k ∧ k ∉ [d] := fun k hk => by simp [own, Value.ownBlock] at hk
  refine { dm := hd.chg hc2 (by simp), nF := fun k hk => by (obtain rfl := List.mem_singleton.1 hk; exact hw), chg := hc.trans hc2 (fun _ h => by cases h), bs := ?_, bt := (Blk.new W 3 _).alloc _, si := Sl.nil _ _ _, sm := Sl.nil _ _ _, ns := ⟨by have := hc.size; omega, by simp; omega⟩, nt := ⟨hc.size, by simp; omega, by simp [own, Value.ownBlock]⟩, nv := hno, nm := hno }
  have := Blk.new (W.alloc (.cells #[.int .i64 0] 3)) 56 #[.slice none 0 0]
  rw [e] at this
  exact this

set_option maxRecDepth 20000 in
set_option maxHeartbeats 4000000 in
theorem dkeeps_any {w : World} {v : Value} {ops : List DOp} (x : Int) (hl : RDOps w v ops) : Calls Try.prog 11 #[.int .i64 x, v] w fun e w' => e = .returned (.bool true) ∧ Chg [] w w' := by
  obtain ⟨A, c, rfl⟩ := hl.form
  by_cases hbig : 200 < ops.length
  · go_enter Try.func11, Try.ntmps11
    go_wp2_with (go_at_call 13; refine (dknown_any _).mono ?_; rintro e w1 ⟨rfl, hc1⟩)
    go_ret
    exact ⟨rfl, hc1⟩
  have hcl := clamp_le x
  obtain ⟨r, hr⟩ : ∃ r, clamp x = r := ⟨_, rfl⟩
  rw [hr] at hcl
  have hnew := dnew2 x w
  rw [hr] at hnew
  have HN := hide hnew
  clear hnew hr
  obtain ⟨hr1, hr2⟩ := hcl
  have hlen : ops.length ≤ 200 := by omega
  clear hbig
  have hd : decide (200 < (ops.length : Int)) = false := by simp; omega
  go_enter Try.func11, Try.ntmps11
  go_wp2_with (go_at_call 14; refine HN.out.mono ?_; rintro e w1 ⟨d, rfl, hd0, hs1, hc1⟩)
  clear HN
  have h1 := ts_new (W' := w) hs1 hd0 hc1
  clear hs1 hd0 hc1
  generalize (w1.alloc (.cells #[.int .i64 0] 3)).alloc (.cells #[.slice none 0 0] 56) = w2 at h1 ⊢
  generalize w1.heap.size + 1 = sb at h1 ⊢
  generalize w1.heap.size = tb at h1 ⊢
  go_loopw [25, 6] (fun i nx wr => ∃ (k n T : Nat) (fs : List (List Ob)) (q : List Ob) (F : List Nat) (As : Option Addr) (cs : Nat), k ≤ ops.length ∧ i = .int .i64 k ∧ nx = .int .i64 n ∧ n ≤ 32 * k ∧ q.length ≤ k ∧ Hid (T = (dall fs q).length) ∧ TS w wr d r fs q F (.slice none 0 0) [] (.slice As n cs) (tal n (fr fs q)) sb tb T ∧ Hid (Inv r n fs q)) (fun i _ _ => ops.length - (intOf i).toNat)
  case atStart => exact ⟨0, 0, 0, [], [], [d], none, 0, by omega, rfl, rfl, by omega, by simp, hide rfl, h1, hide (Inv.nil r 0)⟩
  case round =>
    obtain ⟨k, n, T, fs, q, F, As, cs, hk, rfl, rfl, hn, hqk, hT, h2, hinv⟩ := hrel
    clear h1
    have hlall : Hid ((dall fs q).length = q.length + fs.length * r) := hide (len_all q hinv.out.ln)
    have hf64 : fs.length ≤ 64 := hinv.out.f
    have hfr : fs.length * r ≤ 64 * 32 := Nat.mul_le_mul hf64 hr2
    have hT2 : T ≤ 2048 + 200 := by have := hT.out; have := hlall.out; omega
    have Hfr := hide hfr
    clear hfr
    by_cases hlt : k < ops.length
    · obtain ⟨g, off, rfl⟩ := hl.addr hlt
      obtain ⟨x0, x1, x2, hro, hg⟩ := (hl.chg h2.chg).cells hlt
      clear x2 hro
      go_upto_block 2 with (fail)
      generalize ops[k].k = kk at x0 ⊢
      go_cut [6] from 35 to 128 (fun nx wc => ∃ (n T : Nat) (fs : List (List Ob)) (q : List Ob) (F : List Nat) (As : Option Addr) (cs : Nat), nx = .int .i64 n ∧ n ≤ 32 * (k + 1) ∧ q.length ≤ k + 1 ∧ Hid (T = (dall fs q).length) ∧ TS w wc d r fs q F (.slice none 0 0) [] (.slice As n cs) (tal n (fr fs q)) sb tb T ∧ Hid (Inv r n fs q))
      case rest =>
        obtain ⟨n', T', fs', q', F', As', cs', rfl, hn', hq', hT', h3, hinv'⟩ := hcut
        have hl3 := len_all q' hinv'.out.ln
        have hf3 : fs'.length ≤ 64 := hinv'.out.f
        have hm3 : fs'.length * r ≤ 64 * 32 := Nat.mul_le_mul hf3 hr2
        have hm4 : (0 : Int) ≤ (fs'.length : Int) * (r : Int) := by rw [← Int.natCast_mul]; omega
        have hm5 : (fs'.length : Int) * (r : Int) ≤ 2048 := by rw [← Int.natCast_mul]; omega
        have hal : (dall fs' q').length ≤ 100000 := by omega
        have d1 : ((T' : Int) != (q'.length : Int) + (fs'.length : Int) * (r : Int)) = false := by rw [← Int.natCast_mul, hT'.out, hl3]; simp
        have d2 : (((dall fs' q').length : Int) != (T' : Int)) = false := by rw [hT'.out]; simp
        have HA := hide (fun (W : World) (h : TS w W d r fs' q' F' (.slice none 0 0) [] (.slice As' n' cs') (tal n' (fr fs' q')) sb tb T') => ts_all h (by omega) (by omega))
        clear hl3 hm3 hlall hT hinv h2
        have h4 := h3.later ((Chg.refl _ _).drew)
        clear x0 x1 hg
        go_wp2_with fail
        refine wp_region_t [5,0,6,0,6,0,6,0,0,0,0,0,6,0,5,0,0] [none, none, none, none, none, none, none, none, none, none, none, some (139, false), some (139, false), some (139, false), some (139, false), some (139, false), none] (fun W => Blk W tb 3 #[.int .i64 T']) (by kernel_rfl) (by kernel_rfl) (by kernel_rfl) ?_
        go_wp2_with (first | (refine wpG_hload 3 _ rfl rfl (fun w' hw' => load_i (v := .int .i64 T') (by simpa using Blk.cell hw' 0)) h4.bt ?_; go_simp) | (refine wpG_calc rfl (fun K hK => ?_)) | (refine wpG_skip ?_ ?_; (focus (simp [wantG]; done)); go_simp) | (refine wpG_take ?_ ?_; (focus (simp [wantG]; done))) | (refine wpG_pure (fun K hK => ?_); go_simp; refine hK _ _ ?_; clear hK K) | (refine wpG_deed (by decide) (fun K hK => ?_); go_simp) | (refine wpG_nil ?_))
        refine wpG_keeps h4.bt (fun K hK => ?_)
        go_simp
        refine (ts_queued h4).mono ?_
        rintro e w9 ⟨rfl, rfl⟩
        refine hK _ _ h4.bt ?_
        clear hK K
        go_wp2_with (first | fail | (refine wpG_calc rfl (fun K hK => ?_)) | (refine wpG_skip ?_ ?_; (focus (simp [wantG]; done)); go_simp) | (refine wpG_take ?_ ?_; (focus (simp [wantG]; done))) | (refine wpG_pure (fun K hK => ?_); go_simp; refine hK _ _ ?_; clear hK K) | (refine wpG_deed (by decide) (fun K hK => ?_); go_simp) | (refine wpG_nil ?_))
        refine wpG_keeps h4.bt (fun K hK => ?_)
        go_simp
        refine (ts_fulls h4).mono ?_
        rintro e w9 ⟨rfl, rfl⟩
        refine hK _ _ h4.bt ?_
        clear hK K
        go_wp2_with (first | fail | (refine wpG_calc rfl (fun K hK => ?_)) | (refine wpG_skip ?_ ?_; (focus (simp [wantG]; done)); go_simp) | (refine wpG_take ?_ ?_; (focus (simp [wantG]; done))) | (refine wpG_pure (fun K hK => ?_); go_simp; refine hK _ _ ?_; clear hK K) | (refine wpG_deed (by decide) (fun K hK => ?_); go_simp) | (refine wpG_nil ?_))
        refine wpG_keeps h4.bt (fun K hK => ?_)
        go_simp
        refine (ts_rounds h4).mono ?_
        rintro e w9 ⟨rfl, rfl⟩
        refine hK _ _ h4.bt ?_
        clear hK K
        go_wp2_with (first | fail | (refine wpG_calc rfl (fun K hK => ?_)) | (refine wpG_skip ?_ ?_; (focus (simp [wantG]; done)); go_simp) | (refine wpG_take ?_ ?_; (focus (simp [wantG]; done))) | (refine wpG_pure (fun K hK => ?_); go_simp; refine hK _ _ ?_; clear hK K) | (refine wpG_deed (by decide) (fun K hK => ?_); go_simp) | (refine wpG_nil ?_))
        refine wpG_keeps h4.bt (fun K hK => ?_)
        go_simp
        refine (HA.out _ h4).mono ?_
        rintro e w9 ⟨A9, c9, rfl, h5⟩
        refine hK _ _ h5.bt ?_
        clear hK K
        go_wp2_with (first | (refine wpG_hload 3 _ rfl rfl (fun w' hw' => load_i (v := .int .i64 T') (by simpa using Blk.cell hw' 0)) h5.bt ?_; go_simp) | (refine wpG_calc rfl (fun K hK => ?_)) | (refine wpG_skip ?_ ?_; (focus (simp [wantG]; done)); go_simp) | (refine wpG_take ?_ ?_; (focus (simp [wantG]; done))) | (refine wpG_pure (fun K hK => ?_); go_simp; refine hK _ _ ?_; clear hK K) | (refine wpG_deed (by decide) (fun K hK => ?_); go_simp) | (refine wpG_nil ?_))
        go_wp2_with fail
        go_roundw
        case rel => exact ⟨k + 1, n', T', fs', q', F', As', cs', by omega, by go_num, rfl, hn', hq', hT', h5, hinv'⟩
        case measure => simp [intOf]; omega
      case first =>
        have hqall : (dall fs q).length ≤ 100000 := by have := hT.out; omega
        by_cases hk0 : kk = 0
        · subst hk0
          clear x1
          go_wp2_with (go_at_call 15; refine (ts_rounds h2).mono ?_; rintro e w9 ⟨rfl, rfl⟩)
          obtain ⟨wo, rfl⟩ : ∃ wo : World, wo = wr := ⟨_, rfl⟩
          go_loopw [37, 6, 11] (fun i nx vm wi => ∃ (j N : Nat) (Am : Option Addr) (cm : Nat) (As : Option Addr) (cs : Nat), j ≤ r ∧ i = .int .i64 j ∧ nx = .int .i64 N ∧ Hid (N = n + j) ∧ vm = .slice Am (obq n j).length cm ∧ TS w wi d r fs q F (.slice Am (obq n j).length cm) (obq n j) (.slice As N cs) (tal N (fr fs q)) sb tb T) (fun i _ _ _ => r - (intOf i).toNat)
          case atStart => exact ⟨0, n, none, 0, As, cs, by omega, rfl, rfl, hide rfl, rfl, h2⟩
          case round =>
            obtain ⟨j, N, Am, cm, As, cs, hj, rfl, rfl, hN, rfl, h3⟩ := hrel
            have hN2 : N ≤ 32 * (k + 1) := by have := hN.out; omega
            have HlM : Hid ((obq n j).length + 1 ≤ 1000000) := hide (by rw [obq_length]; omega)
            have HlS : Hid ((tal N (fr fs q)).length + 1 ≤ 1000000) := hide (by rw [tal_length]; omega)
            by_cases hjt : j < r
            · go_wp2_with (first | (at_builtin; refine wpList_append_ob rfl _ _ rfl (.slice Am (obq n j).length cm) _ rfl rfl (Sl.alloc h3.sm _) (RO_one wr N 0) HlM.out ?_; intro A8 c8 W8 hs8 hc8 ho8; have h4 := (h3.later ((Chg.refl _ _).alloc _)).appM hs8 hc8 (grow_of ho8); obtain ⟨x8, y8, f8, g8⟩ := h4.cells) | (at_builtin; refine wpList_append_in rfl _ _ rfl (.slice As N cs) _ rfl rfl (Sl.alloc h4.si _) (RI_one W8 0) HlS.out ?_; intro A9 c9 W9 hs9 hc9 ho9; have h5 := (h4.later ((Chg.refl _ _).alloc _)).appS hs9 hc9 (grow_of ho9); clear x8 y8 f8 g8; obtain ⟨x9, f9⟩ := (h4.later ((Chg.refl _ _).alloc _)).s_stays hc9))
              go_roundw
              case rel =>
                have eS : (tal N (fr fs q)).length + [(0 : Int)].length = N + 1 := by rw [tal_length]; rfl
                have eL : tal N (fr fs q) ++ [0] = tal (N + 1) (fr fs q) := tal_push0 (by rw [hN.out]; exact lt_push hinv.out.lt)
                have eM : obq n j ++ [((N : Int), 0)] = obq n (j + 1) := by rw [obq_succ, hN.out]
                rw [eS, eL, eM] at h5
                exact ⟨j + 1, N + 1, A8, c8, A9, c9, by omega, by go_num, by go_num, hide (by have := hN.out; omega), by rw [← eM, List.length_append]; rfl, by rw [tal_length, ← eM, List.length_append, eM]; exact h5⟩
              case measure => simp [intOf]; omega
            · obtain rfl : j = r := by omega
              have hMl : (obq n j).length = j := obq_length n j
              have hMn : ((obq n j).map Prod.fst ++ fr fs q).Nodup := (List.perm_append_comm.nodup_iff).1 (hinv.out.notin)
              have hMr : ∀ (i : Nat) (h : i < (obq n j).length), (obq n j)[i].1 = ((n + i : Nat) : Int) := fun i h => obq_get n j i h
              by_cases hf : fs.length < 64
              · have hinv2 := hide (hinv.out.put hf)
                generalize obq n j = M at h3 hMl hMn hMr hinv2 ⊢
                have HMn := hide hMn
                have HMr := hide hMr
                have HE := hide (ts_put h3 hr1 (by omega) hMl hf)
                have HMl := hide hMl
                have hMl2 : M.length ≤ 32 := by omega
                clear hMn hMr hMl
                go_wp2_with (go_at_call 16; refine HE.out.mono ?_; rintro e W5 ⟨rfl, F5, h5⟩)
                obtain ⟨wo, rfl⟩ : ∃ wo : World, wo = wr := ⟨_, rfl⟩
                go_loopw [56] (fun i wi => ∃ (i' : Nat), i' ≤ M.length ∧ i = .int .i64 i' ∧ TS w wi d j (fs ++ [M]) q F5 (.slice Am M.length cm) M (.slice As N cs) (tal N ((M.take i').map Prod.fst ++ fr fs q)) sb tb T) (fun i _ => M.length - (intOf i).toNat)
                case atStart => exact ⟨0, by omega, rfl, by simpa using h5⟩
                case round =>
                  obtain ⟨i', hi', rfl, h6⟩ := hrel
                  by_cases hit : i' < M.length
                  · have hN0 : 0 < N := by have := hN.out; have := HMl.out; omega
                    obtain ⟨gs, os, rfl⟩ := SI.addr h6.si hN0
                    obtain ⟨gm, om, rfl⟩ := SO.addr h6.sm (by omega)
                    obtain ⟨x8, y8, f8, g8⟩ := h6.cells
                    have q0 := (RO.cellsN (SO.ro h6.sm) hit).1
                    have hmi := HMr.out i' hit
                    obtain ⟨f, hfe⟩ : ∃ f : Nat, f = n + i' := ⟨_, rfl⟩
                    rw [hmi, ← hfe] at q0
                    have hfN : f < N := by have := hN.out; have := HMl.out; omega
                    have q2 := SI.frozen h6.si (os + f)
                    have hfS : f < (tal N ((M.take i').map Prod.fst ++ fr fs q)).length := by rw [tal_length]; exact hfN
                    have q3 := RI.cell h6.si.ri hfS
                    obtain ⟨c0, hc0⟩ : ∃ c0, (tal N ((M.take i').map Prod.fst ++ fr fs q))[f] = c0 := ⟨_, rfl⟩
                    rw [hc0] at q3
                    have h7 := (h6.later ((Chg.refl _ _).drew)).setS hfS 1
                    have esn : (M.take (i' + 1)).map Prod.fst = (M.take i').map Prod.fst ++ [(f : Int)] := by rw [List.take_succ_eq_append_getElem hit, List.map_append, hfe, ← hmi]; rfl
                    have hni : (f : Int) ∉ (M.take i').map Prod.fst ++ fr fs q := fun hm => by
                      have hs : ((M.take (i' + 1)).map Prod.fst ++ fr fs q).Nodup := by
                        refine List.Sublist.nodup ?_ HMn.out
                        exact ((List.take_sublist _ _).map _).append_right _
                      rw [esn, List.append_assoc] at hs
                      have := (List.nodup_append.1 hs).2.2
                      rcases List.mem_append.1 hm with h' | h'
                      · exact this _ h' _ (by simp) rfl
                      · exact (List.nodup_append.1 (List.nodup_append.1 hs).2.1).2.2 (f : Int) (by simp) _ h' rfl
                    rw [tal_on hni] at h7
                    have ep : ((f : Int) :: ((M.take i').map Prod.fst ++ fr fs q)).Perm ((M.take (i' + 1)).map Prod.fst ++ fr fs q) := by
                      rw [esn, List.append_assoc]
                      exact List.perm_middle.symm
                    rw [tal_perm ep] at h7
                    have Hfe := hide hfe
                    clear hmi hfe hfS hc0 esn hni ep
                    go_wp2_with fail
                    refine wp_region_t [1, 0, 0, 0, 0, 1, 0, 3] [none, none, none, none, none, none, none, none] (fun _ => True) (by kernel_rfl) (by kernel_rfl) (by kernel_rfl) ?_
                    go_wp2_with (first | fail | (refine wpG_calc rfl (fun K hK => ?_)) | (refine wpG_skip ?_ ?_; (focus (simp [wantG]; done)); go_simp) | (refine wpG_take ?_ ?_; (focus (simp [wantG]; done))) | (refine wpG_pure (fun K hK => ?_); go_simp; refine hK _ _ ?_; clear hK K) | (refine wpG_deed (by decide) (fun K hK => ?_); go_simp) | (refine wpG_nil ?_))
                    go_wp2_with fail
                    go_roundw
                    case rel => exact ⟨i' + 1, by omega, by go_num, h7⟩
                    case measure => simp [intOf]; omega
                  · obtain ⟨x8, y8, f8, g8⟩ := h6.cells
                    have et : M.take i' = M := List.take_of_length_le (by omega)
                    rw [et] at h6
                    clear et
                    go_wp2_with fail
                    go_meet
                    case rel =>
                      have h7 := h6.noM.setT ((T : Int) + (M.length : Int))
                      have e2 : (T : Int) + (M.length : Int) = ((T + M.length : Nat) : Int) := by omega
                      rw [← tal_perm (fr_snoc fs M q)] at h7
                      rw [e2] at h7
                      rw [← hN.out] at hinv2
                      exact ⟨N, T + M.length, fs ++ [M], q, F5, As, cs, rfl, by omega, by omega, hide (by rw [(dall_snoc fs M q).length_eq, List.length_append, hT.out]; omega), by rw [e2]; exact h7, hinv2⟩
              · have HE := hide (ts_put_no h3 hr1 hMl (by omega) (by omega) (by omega))
                clear hMn hMr
                have HMl := hide hMl
                clear hMl
                go_wp2_with (go_at_call 16; refine HE.out.mono ?_; rintro e W5 ⟨rfl, rfl⟩)
                go_meet
                case rel => exact ⟨N, T, fs, q, F, As, cs, rfl, by omega, by omega, hT, h3.noM, hide (hinv.out.mono (by have := hN.out; omega))⟩
        by_cases hk1 : kk = 1
        · subst hk1
          rcases List.eq_nil_or_concat fs with rfl | ⟨fs', m, rfl⟩
          · have HE := hide (fun (W : World) (h : TS w W d r [] q F (.slice none 0 0) [] (.slice As n cs) (tal n (fr [] q)) sb tb T) => ts_take (M := []) (R := fr [] q) (t := (T : Int)) h true (by simpa using hinv.out.nd) (by simp) (by omega) (by simp) (by omega) (by simp) (T : Int) (by simp))
            go_wp2_with (go_at_call 20; refine (ts_get_no h2).mono ?_; rintro e W1 ⟨rfl, rfl⟩)
            go_wp2_with (go_at_call 45; refine (HE.out _ h2).mono ?_; rintro e W1 ⟨rfl, h3⟩)
            go_meet
            case rel => exact ⟨n, T, [], q, F, As, cs, rfl, by omega, by omega, hT, h3, hinv⟩
          · rw [List.concat_eq_append] at h2 hinv hf64 hT hqall
            have hf' : fs'.length ≤ 1000 := by simp at hf64; omega
            have hml : m.length = r := hinv.out.ln m (by simp)
            have hp := fr_snoc fs' m q
            rw [tal_perm hp] at h2
            have hnd : (m.map Prod.fst ++ fr fs' q).Nodup := (hp.nodup_iff).1 hinv.out.nd
            have hTm : T = m.length + (dall fs' q).length := by rw [hT.out, (dall_snoc fs' m q).length_eq, List.length_append]
            have HG := hide (ts_get h2 hf')
            have hTm2 := hide hTm
            have HE := hide (fun (W : World) (A : Option Addr) (c : Nat) (F : List Nat) (h : TS w W d r fs' q F (.slice A m.length c) m (.slice As n cs) (tal n (m.map Prod.fst ++ fr fs' q)) sb tb T) => ts_take h true hnd (fun o ho => hinv.out.rg o ((dall_snoc fs' m q).mem_iff.2 (List.mem_append_left _ ho))) (by omega) (by omega) (by omega) (fun _ => hinv.out.up m (by simp)) (((dall fs' q).length : Nat) : Int) (by omega))
            have Hml := hide hml
            have hlr : ((m.length : Int) != (r : Int)) = false := by rw [hml]; simp
            clear hp hnd hTm hml
            go_wp2_with (go_at_call 20; refine HG.out.mono ?_; rintro e W1 ⟨A3, c3, F3, rfl, h3⟩)
            go_wp2_with (first | (go_at_call 45; refine (HE.out _ _ _ _ h3).mono ?_; rintro e W2 ⟨rfl, h4⟩) | (go_at_call 15; refine (ts_rounds h4).mono ?_; rintro e W3 ⟨rfl, rfl⟩))
            go_meet
            case rel => exact ⟨n, (dall fs' q).length, fs', q, F3, As, cs, rfl, by omega, by omega, hide rfl, h4, hide hinv.out.pop⟩
        by_cases hk2 : kk = 2
        · subst hk2
          clear x1
          have HlS : Hid ((tal n (fr fs q)).length + 1 ≤ 1000000) := hide (by rw [tal_length]; omega)
          go_wp2_with fail
          refine (ts_queue h2 hr1 n 0 (by omega)).mono ?_
          rintro e W1 ⟨rfl, F1, h3⟩
          obtain ⟨x8, y8, f8, g8⟩ := h3.cells
          go_wp2_with (at_builtin; refine wpList_append_in rfl _ _ rfl (.slice As n cs) _ rfl rfl (Sl.alloc h3.si _) (RI_one W1 1) HlS.out ?_; intro A9 c9 W9 hs9 hc9 ho9; have h5 : TS w (W9.setCell ⟨sb, 0, none⟩ (.slice A9 ((tal n (fr fs q)).length + 1) c9)) d r fs (q ++ [((n : Int), 0)]) F1 (.slice none 0 0) [] (.slice A9 ((tal n (fr fs q)).length + 1) c9) (tal n (fr fs q) ++ [1]) sb tb T := (h3.later ((Chg.refl _ _).alloc _)).appS hs9 hc9 (grow_of ho9); clear x8 y8 f8 g8; obtain ⟨x9, f9⟩ := (h3.later ((Chg.refl _ _).alloc _)).s_stays hc9; obtain ⟨x10, y10, f10, g10⟩ := h5.cells)
          go_meet
          case rel =>
            have eS : (tal n (fr fs q)).length + 1 = n + 1 := by rw [tal_length]
            have eL : tal n (fr fs q) ++ [1] = tal (n + 1) (fr fs (q ++ [((n : Int), 0)])) := by
              rw [tal_push1 hinv.out.lt]
              unfold fr
              rw [dall_q, List.map_append]
              rfl
            have h6 := h5.setT ((T : Int) + 1)
            rw [eS, eL] at h6
            have e2 : (T : Int) + 1 = ((T + 1 : Nat) : Int) := by omega
            rw [e2] at h6
            exact ⟨n + 1, T + 1, fs, q ++ [((n : Int), 0)], F1, A9, c9, by go_num, by omega, by simp; omega, hide (by rw [dall_q, List.length_append, hT.out]; rfl), by rw [tal_length, e2]; exact h6, hide hinv.out.queue⟩
        by_cases hk3 : kk = 3
        · subst hk3
          obtain ⟨on, hon⟩ : ∃ on, ops[k].n = on := ⟨_, rfl⟩
          rw [hon] at x1
          have HON := hide hon
          clear hon
          have hD := ts_drain h2 on (by omega)
          obtain ⟨k1, hk1e⟩ : ∃ k1, drainN on q.length = k1 := ⟨_, rfl⟩
          have hkm := drainN_max on q.length
          rw [hk1e] at hD hkm
          obtain ⟨t1, ht1⟩ : ∃ t1, q.take k1 = t1 := ⟨_, rfl⟩
          have ht1l : t1.length ≤ k1 := by rw [← ht1, List.length_take]; omega
          have hp := fr_drain fs q k1
          rw [tal_perm hp] at hD
          have hnd : (t1.map Prod.fst ++ fr fs (q.drop k1)).Nodup := by rw [← ht1]; exact (hp.nodup_iff).1 hinv.out.nd
          have hTm : T = t1.length + (dall fs (q.drop k1)).length := by
            rw [hT.out, ← ht1, ← fr_len, hp.length_eq, List.length_append, List.length_map, fr_len]
          have hsub : ∀ o ∈ t1, o ∈ dall fs q := fun o ho => by
            rw [← ht1] at ho
            exact List.mem_append_right _ (List.mem_of_mem_take ho)
          have hq2 : (q.drop k1).length ≤ k + 1 := by rw [List.length_drop]; omega
          rw [ht1] at hD
          have HD := hide hD
          have HTm := hide hTm
          have HE := hide (fun (W : World) (A : Option Addr) (c : Nat) (h : TS w W d r fs (q.drop k1) F (.slice A t1.length c) t1 (.slice As n cs) (tal n (t1.map Prod.fst ++ fr fs (q.drop k1))) sb tb T) => ts_take h false hnd (fun o ho => hinv.out.rg o (hsub o ho)) (by omega) (by omega) (by omega) (fun h => by cases h) (((dall fs (q.drop k1)).length : Nat) : Int) (by omega))
          have hinv3 := hide (hinv.out.drain k1)
          have HL := hide hl
          clear hD hk1e ht1 hp hnd hTm hsub
          generalize q.drop k1 = q2 at HD HTm HE hinv3 hq2
          by_cases hneg : on < 0
          · obtain rfl : t1 = [] := List.eq_nil_of_length_eq_zero (by omega)
            clear hkm ht1l
            go_wp2_with fail
            refine HD.out.mono ?_
            rintro e W1 ⟨A3, c3, rfl, h3⟩
            obtain ⟨_, y1, _, _, _⟩ := (HL.out.chg h3.chg).cells hlt
            rw [HON.out] at y1
            go_wp2_with (go_at_call 45; refine (HE.out _ _ _ h3).mono ?_; rintro e W2 ⟨rfl, h4⟩)
            go_meet
            case rel => exact ⟨n, (dall fs q2).length, fs, q2, F, As, cs, rfl, by omega, hq2, hide rfl, h4, hinv3⟩
          · have hle : (t1.length : Int) ≤ on := by omega
            have hpos : 0 ≤ on := by omega
            clear hkm ht1l hneg
            go_wp2_with fail
            refine HD.out.mono ?_
            rintro e W1 ⟨A3, c3, rfl, h3⟩
            obtain ⟨_, y1, _, _, _⟩ := (HL.out.chg h3.chg).cells hlt
            rw [HON.out] at y1
            go_wp2_with (go_at_call 45; refine (HE.out _ _ _ h3).mono ?_; rintro e W2 ⟨rfl, h4⟩)
            all_goals
              go_meet
              case rel => exact ⟨n, (dall fs q2).length, fs, q2, F, As, cs, rfl, by omega, hq2, hide rfl, h4, hinv3⟩
        · go_wp2_with fail
          go_meet
          case rel => exact ⟨n, T, fs, q, F, As, cs, rfl, by omega, by omega, hT, h2, hinv⟩
    · have hD := ts_flush h2 (by omega) (by have := hT.out; omega)
      have hT3 : ((dall fs q).length : Int) = T := by rw [hT.out]
      have HD := hide hD
      have hall2 : (dall fs q).length ≤ 100000 := by have := hT.out; omega
      have HE := hide (fun (W : World) (A : Option Addr) (c : Nat) (h : TS w W d r [] [] F (.slice A (dall fs q).length c) (dall fs q) (.slice As n cs) (tal n (fr fs q)) sb tb T) => ts_take (R := []) (t := (T : Int)) (by simpa [fr] using h) false (by simpa [fr] using hinv.out.nd) hinv.out.rg (by omega) (by omega) (by omega) (fun h => by cases h) 0 (by omega))
      have HA := hide (fun (W : World) (h : TS w W d r [] [] F (.slice none 0 0) [] (.slice As n cs) (tal n []) sb tb 0) => ts_all h (by simp) (by simp [dall]))
      clear hD hT3
      go_wp2_with fail
      refine HD.out.mono ?_
      rintro e W1 ⟨A3, c3, rfl, h3⟩
      go_wp2_with fail
      refine (HE.out _ _ _ h3).mono ?_
      rintro e W2 ⟨rfl, h4⟩
      obtain ⟨x8, y8, f8, g8⟩ := h4.cells
      go_wp2_with (first | (go_at_call 38; refine (HA.out _ h4).mono ?_; rintro e W3 ⟨A4, c4, rfl, h5⟩) | (go_at_call 13; refine (dknown_any _).mono ?_; rintro e W10 ⟨rfl, hc10⟩))
      go_ret
      exact ⟨rfl, h5.chg.trans hc10 (fun _ h => by cases h)⟩
end Go.Proofs.Ytbmdcfeiecmlpaa
