/- same: the runs of an area and of the document's are alike. -/
import Derived.Test.YtmgjknlpcnakiaaRfC
import Derived.Test.YtmgjknlpcnakiaaArS
namespace Go.Proofs.Ytmgjknlpcnakiaa
open Go Go.RowKit Go.Shelf

attribute [local go_sem] Oper.semAt_some
set_option maxRecDepth 20000 in
set_option maxHeartbeats 4000000 in
theorem same_any {w : World} {d b : Nat} {l : List Rn} {F : List Nat} (hm : AMem w d l F) (hs : Sp l) (hp : PA w b (rt l)) :
    Calls Try.prog 25 #[.pointer (some ⟨d, 0, none⟩), .pointer (some ⟨b, 0, none⟩)] w fun e w' => e = .returned (.bool true) ∧ Chg [] w w' := by
  have hr0 : Blk (w.alloc (.cells #[.bool false] 4)) w.heap.size 4 #[.bool false] := Blk.new w 4 _
  have hc0 : Chg [] w (w.alloc (.cells #[.bool false] 4)) := (Chg.refl [] w).alloc _
  have HR := hide (Runs_any (Blk.alloc hp (.cells #[.bool false] 4)) hs.nm hs.rt_in)
  have hll := hs.len
  have HM := hide hm
  have fnil := fn_nil
  clear hs hp hm
  refine calls_marks Try.func25 rfl ?_
  simp only [Try.ntmps25, List.size_toArray, List.length_cons, List.length_nil, Nat.reduceAdd, Nat.reduceSub, Array.replicate_succ, Array.replicate_zero, List.push_toArray, List.append_toArray, List.nil_append, List.cons_append]
  go_wp2_with fail
  refine HR.out.mono ?_
  rintro e W1 ⟨A, n, c, rfl, hs1, hn1, hc1⟩
  obtain ⟨A', c', e'⟩ := hs1.form
  obtain rfl : n = l.length := by injection e'
  clear e' A' c' HR
  have hr1 := hr0.chg hc1 List.not_mem_nil
  have hc01 := hc0.stay hc1
  have hbr0 : w.heap.size ≤ w.heap.size := Nat.le_refl _
  obtain ⟨br, hbr⟩ : ∃ br, br = w.heap.size := ⟨_, rfl⟩
  have hbr0 : w.heap.size ≤ br := by omega
  rw [← hbr] at hr1 ⊢
  clear hr0 hc0 hc1 hbr hn1
  go_wp2_with fail
  obtain ⟨bl, hbl⟩ : ∃ bl, bl = W1.heap.size := ⟨_, rfl⟩
  obtain ⟨bn, hbn⟩ : ∃ bn, bn = W1.heap.size + 1 := ⟨_, rfl⟩
  rw [← hbn, ← hbl]
  have hc2 : Chg [] W1 ((W1.alloc (.cells #[.slice A l.length c] 38)).alloc (.cells #[.int .i64 0] 3)) := ((Chg.refl [] W1).alloc _).alloc _
  have hl2 : Blk ((W1.alloc (.cells #[.slice A l.length c] 38)).alloc (.cells #[.int .i64 0] 3)) bl 38 #[.slice A l.length c] := by rw [hbl]; exact (Blk.new W1 38 _).alloc _
  have hn2 : Blk ((W1.alloc (.cells #[.slice A l.length c] 38)).alloc (.cells #[.int .i64 0] 3)) bn 3 #[.int .i64 ((0 : Nat) : Int)] := by
    have := Blk.new (W1.alloc (.cells #[.slice A l.length c] 38)) 3 #[.int .i64 0]
    rw [World.size_alloc] at this
    rw [hbn]; exact this
  have hbnown : bn ∉ own (.slice A l.length c) := fun h => by have := hs1.own_lt _ h; omega
  have hbn0 : w.heap.size ≤ bn := by have := hc01.size; omega
  have hs2 := hs1.stay hc2
  have hr2 := hr1.chg hc2 List.not_mem_nil
  have hc02 := hc01.stay hc2
  clear hs1 hr1 hc01 hc2 hbl hbn
  generalize ((W1.alloc (.cells #[.slice A l.length c] 38)).alloc (.cells #[.int .i64 0] 3)) = W2 at hs2 hr2 hc02 hl2 hn2 ⊢
  refine (runs_any _ W2).mono ?_
  rintro e W3 ⟨rfl, -, hc3⟩
  go_wp2_with fail
  refine (runs_any _ W3).mono ?_
  rintro e W4 ⟨rfl, hbx, hc4⟩
  have hcc := hc3.stay hc4
  have hs4 := hs2.stay hcc
  have hr4 := hr2.chg hcc List.not_mem_nil
  have hl4 := hl2.chg hcc List.not_mem_nil
  have hn4 := hn2.chg hcc List.not_mem_nil
  have hc04 := hc02.stay hcc
  have HM4 := hide (HM.out.stay hc04)
  clear hs2 hr2 hl2 hn2 hc02 hcc hc3 hc4
  go_wp2_with fail
  refine wp_count (bn := bn) (q0 := 7) rfl hbx HM4.out (by omega) hn4 ?assign ?body ?done
  case assign =>
    intro j r W K hK
    unfold rv
    gi_wp2
    exact hK
  case body =>
    rintro j B k hk W' Q' hQ' hc hbk hB hK
    have hs9 := hs4.chg hc (fun x hx h => hbnown (by obtain rfl := List.mem_singleton.1 h; exact hx))
    have hm9 := hl4.chg hc (by simp; exact hl4.ne_ hn4 (by decide))
    obtain ⟨g1, o1, rfl⟩ := SE.addr hs9 (by omega)
    obtain ⟨q0, q1, q2⟩ := RR.cells hs9.re hk
    obtain ⟨t0, t1, t2, t3⟩ := box3 hB
    have n0 := hbk.cell 0
    have n1 := hbk.frozen 0
    have m0 := hm9.cell 0
    simp at n0 m0
    obtain ⟨r, hr⟩ : ∃ r, r = l[k] := ⟨_, rfl⟩
    rw [← hr] at q0 q1 q2 t0 t1 t2 hB ⊢
    have hld := load_rn (w := W'.drew) q0 q1 q2
    have hld2 := load_rn (w := W'.drew) t0 t1 t2
    have hkd : decide (l.length ≤ k) = false := decide_eq_false (by omega)
    have hkd2 : decide ((l.length : Int) ≤ (k : Int)) = false := decide_eq_false (by omega)
    have HQ := hide hQ'
    clear hQ' hr hs9 hm9 hB
    unfold rv
    gi_wp2
    refine wpIn_region_g [1,1,0,0,0,1,1,1,0,1,0,0] [none, none, none, none, none, some (20, false), some (20, false), some (20, false), some (20, false), some (20, false), some (20, false), none] (fun _ => True) (by kernel_rfl) (by kernel_rfl) (by kernel_rfl) (by kernel_rfl) (fun ⟨_, _, h⟩ => HQ.out ⟨_, _, h⟩) ?_
    go_wp2_with (first | (refine wpG_neq_rn _ _ _ rfl rfl rfl false (by simp) ?_) | (refine wpG_calc rfl (fun K hK => ?_)) | (refine wpG_skip ?_ ?_; (focus (simp [wantG]; done)); go_simp) | (refine wpG_take ?_ ?_; (focus (simp [wantG]; done))) | (refine wpG_pure (fun K hK => ?_); go_simp; refine hK _ _ ?_; clear hK K) | (refine wpG_deed (by decide) (fun K hK => ?_); go_simp) | (refine wpG_nil ?_))
    gi_wp2
    exact hK _ _ (Chg.refl [] W').drew
  case done =>
    rintro D W5 hDw hdf hn5 hc5
    have hne : bn ≠ bl := hn4.ne_ hl4 (by decide)
    have hs5 := hs4.chg hc5 (fun x hx h => hbnown (by obtain rfl := List.mem_singleton.1 h; exact hx))
    have hl5 := hl4.chg hc5 (by simp; exact fun e => hne e.symm)
    have hr5 := hr4.chg hc5 (by simp; exact hr4.ne_ hn4 (by decide))
    have hc05 : Chg [] w W5 := hc04.trans hc5 (fun x hx => .inr (by obtain rfl := List.mem_singleton.1 hx; exact hbn0))
    have HM5 := hide (HM.out.stay hc05)
    clear hs4 hr4 hl4 hn4 hc5 hbx HM4
    go_wp2_with fail
    refine (runs_any _ W5).mono ?_
    rintro e W6 ⟨rfl, -, hc6⟩
    go_wp2_with fail
    refine (runs_any _ W6).mono ?_
    rintro e W7 ⟨rfl, hbx, hc7⟩
    have hcc := hc6.stay hc7
    have hs7 := hs5.stay hcc
    have hr7 := hr5.chg hcc List.not_mem_nil
    have hl7 := hl5.chg hcc List.not_mem_nil
    have hn7 := hn5.chg hcc List.not_mem_nil
    have hd7 : W7.heap[D]? = some (.deferred (some [])) := (hcc.block D (Array.getElem?_eq_some_iff.1 hdf).1 List.not_mem_nil).trans hdf
    have hc07 := hc05.stay hcc
    have HM7 := hide (HM5.out.stay hcc)
    clear hs5 hr5 hl5 hn5 hcc hc6 hc7 hc05 HM5 hdf
    go_wp2_with fail
    refine wp_break (id := 2) rfl hbx HM7.out (by omega) ?assign2 ?body2 ?done2 ?stop2
    case assign2 =>
      intro j r W K hK
      unfold rv
      gi_wp2
      exact hK _
    case body2 =>
      intro j a' W Q' hQ
      gi_wp2
      exact hQ
    case done2 =>
      rintro D2 W8 hD2 hd2 hc8
      have hs8 := hs7.stay hc8
      have hr8 := hr7.chg hc8 List.not_mem_nil
      have hl8 := hl7.chg hc8 List.not_mem_nil
      have hn8 := hn7.chg hc8 List.not_mem_nil
      have hd8 : W8.heap[D]? = some (.deferred (some [])) := (hc8.block D (Array.getElem?_eq_some_iff.1 hd7).1 List.not_mem_nil).trans hd7
      have hDlt := (Array.getElem?_eq_some_iff.1 hd7).1
      have hc08 := hc07.stay hc8
      have HM8 := hide (HM7.out.stay hc8)
      have hle := hc07.size
      have hle4 := hc04.size
      clear hs7 hr7 hl7 hn7 hc8 hc07 hd7 HM7 hbx
      have HD := hide hd8
      have HD2 := hide hd2
      clear hd8 hd2
      have l0 := hl8.cell 0
      have n0 := hn8.cell 0
      simp at l0 n0
      go_wp2_with fail
      refine wp_region_t [1,1,0,0,0,0,6,5,0,0,3] [none, none, none, none, none, some (40, true), some (40, true), some (40, true), some (40, true), none, none] (fun W => Blk W bn 3 #[.int .i64 l.length]) (by kernel_rfl) (by kernel_rfl) (by kernel_rfl) ?_
      have hnd : Blk W8.drew bn 3 #[.int .i64 l.length] := hn8
      have HMd := hide (HM8.out.stay (Chg.refl [] W8).drew)
      obtain ⟨z1, z2, z3⟩ := blk_res hr8.drew
      go_wp2_with (first | fail | (refine wpG_calc rfl (fun K hK => ?_)) | (refine wpG_skip ?_ ?_; (focus (simp [wantG]; done)); go_simp) | (refine wpG_take ?_ ?_; (focus (simp [wantG]; done))) | (refine wpG_pure (fun K hK => ?_); go_simp; refine hK _ _ ?_; clear hK K) | (refine wpG_deed (by decide) (fun K hK => ?_); go_simp) | (refine wpG_nil ?_))
      (refine wpG_keeps hnd (fun K hK => ?_))
      go_simp
      refine (len_at HMd.out).mono ?_
      rintro e W9 ⟨rfl, rfl⟩
      refine hK _ _ hnd ?_
      clear hK K
      go_wp2_with (first | (refine wpG_hload 3 _ rfl rfl (fun w' hw' => load_int Try.underlying3 (by simpa using Blk.cell hw' 0)) hnd ?_; go_simp) | (refine wpG_calc rfl (fun K hK => ?_)) | (refine wpG_skip ?_ ?_; (focus (simp [wantG]; done)); go_simp) | (refine wpG_take ?_ ?_; (focus (simp [wantG]; done))) | (refine wpG_pure (fun K hK => ?_); go_simp; refine hK _ _ ?_; clear hK K) | (refine wpG_deed (by decide) (fun K hK => ?_); go_simp) | (refine wpG_nil ?_))
      have hE : ∀ E ∈ [D2, D], W8.heap[E]? = some (.deferred (some [])) := fun E hE => by
        rcases List.mem_cons.1 hE with rfl | hE
        · exact HD2.out
        · obtain rfl := List.mem_singleton.1 hE; exact HD.out
      have hEbr : ∀ E ∈ [D2, D], E ≠ br := fun E hE' e => by
        have h1 := hE E hE'
        rw [e] at h1
        have h2 : W8.heap[br]? = some (.cells #[.bool false] 4 (0, 0)) := hr8
        rw [h1] at h2
        cases h2
      exact post_marks (Ds := [D2, D]) ⟨by simp; omega, fun E hE' => (Below.heap_setCell _ ⟨br, 0, none⟩ _ E (hEbr E hE')).trans (hE E hE')⟩ fun W' hc => ⟨res_box rfl rfl (z3.chg hc (fun h => hEbr br h rfl)), rfl, ((hc08.drew).setCell (.inr hbr0) _).trans hc (fun x hx => .inr (by
        rcases List.mem_cons.1 hx with rfl | hx
        · omega
        · obtain rfl := List.mem_singleton.1 hx; omega))⟩
    case stop2 =>
      rintro D2 W8 hD2 hd2 hc8
      have hs8 := hs7.stay hc8
      have hr8 := hr7.chg hc8 List.not_mem_nil
      have hl8 := hl7.chg hc8 List.not_mem_nil
      have hn8 := hn7.chg hc8 List.not_mem_nil
      have hd8 : W8.heap[D]? = some (.deferred (some [])) := (hc8.block D (Array.getElem?_eq_some_iff.1 hd7).1 List.not_mem_nil).trans hd7
      have hDlt := (Array.getElem?_eq_some_iff.1 hd7).1
      have hc08 := hc07.stay hc8
      have HM8 := hide (HM7.out.stay hc8)
      have hle := hc07.size
      have hle4 := hc04.size
      clear hs7 hr7 hl7 hn7 hc8 hc07 hd7 HM7 hbx
      have HD := hide hd8
      have HD2 := hide hd2
      clear hd8 hd2
      have l0 := hl8.cell 0
      have n0 := hn8.cell 0
      simp at l0 n0
      go_wp2_with fail
      refine wp_region_t [1,1,0,0,0,0,6,5,0,0,3] [none, none, none, none, none, some (40, true), some (40, true), some (40, true), some (40, true), none, none] (fun W => Blk W bn 3 #[.int .i64 l.length]) (by kernel_rfl) (by kernel_rfl) (by kernel_rfl) ?_
      have hnd : Blk W8.drew bn 3 #[.int .i64 l.length] := hn8
      have HMd := hide (HM8.out.stay (Chg.refl [] W8).drew)
      obtain ⟨z1, z2, z3⟩ := blk_res hr8.drew
      go_wp2_with (first | fail | (refine wpG_calc rfl (fun K hK => ?_)) | (refine wpG_skip ?_ ?_; (focus (simp [wantG]; done)); go_simp) | (refine wpG_take ?_ ?_; (focus (simp [wantG]; done))) | (refine wpG_pure (fun K hK => ?_); go_simp; refine hK _ _ ?_; clear hK K) | (refine wpG_deed (by decide) (fun K hK => ?_); go_simp) | (refine wpG_nil ?_))
      (refine wpG_keeps hnd (fun K hK => ?_))
      go_simp
      refine (len_at HMd.out).mono ?_
      rintro e W9 ⟨rfl, rfl⟩
      refine hK _ _ hnd ?_
      clear hK K
      go_wp2_with (first | (refine wpG_hload 3 _ rfl rfl (fun w' hw' => load_int Try.underlying3 (by simpa using Blk.cell hw' 0)) hnd ?_; go_simp) | (refine wpG_calc rfl (fun K hK => ?_)) | (refine wpG_skip ?_ ?_; (focus (simp [wantG]; done)); go_simp) | (refine wpG_take ?_ ?_; (focus (simp [wantG]; done))) | (refine wpG_pure (fun K hK => ?_); go_simp; refine hK _ _ ?_; clear hK K) | (refine wpG_deed (by decide) (fun K hK => ?_); go_simp) | (refine wpG_nil ?_))
      have hE : ∀ E ∈ [D2, D], W8.heap[E]? = some (.deferred (some [])) := fun E hE => by
        rcases List.mem_cons.1 hE with rfl | hE
        · exact HD2.out
        · obtain rfl := List.mem_singleton.1 hE; exact HD.out
      have hEbr : ∀ E ∈ [D2, D], E ≠ br := fun E hE' e => by
        have h1 := hE E hE'
        rw [e] at h1
        have h2 : W8.heap[br]? = some (.cells #[.bool false] 4 (0, 0)) := hr8
        rw [h1] at h2
        cases h2
      exact post_marks (Ds := [D2, D]) ⟨by simp; omega, fun E hE' => (Below.heap_setCell _ ⟨br, 0, none⟩ _ E (hEbr E hE')).trans (hE E hE')⟩ fun W' hc => ⟨res_box rfl rfl (z3.chg hc (fun h => hEbr br h rfl)), rfl, ((hc08.drew).setCell (.inr hbr0) _).trans hc (fun x hx => .inr (by
        rcases List.mem_cons.1 hx with rfl | hx
        · omega
        · obtain rfl := List.mem_singleton.1 hx; omega))⟩
end Go.Proofs.Ytmgjknlpcnakiaa
