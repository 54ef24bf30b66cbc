import Derived.Test.YtmgjknlpcnakiaaArE
namespace Go.Proofs.Ytmgjknlpcnakiaa
open Go Go.RowKit

theorem run_min (ts : Array TypeId) (ty : TypeId) (k k' : IntKind) (x y : Int) (w : World) : (Builtin.min_ ts ty #[.int k x, .int k' y]).run Try.prog w = .ok (.int k (min x y)) w := by
  have e : min x y = if y < x then y else x := by split <;> omega
  rw [e]
  simp [Builtin.min_, Builtin.min2]
theorem run_max (ts : Array TypeId) (ty : TypeId) (k k' : IntKind) (x y : Int) (w : World) : (Builtin.max_ ts ty #[.int k x, .int k' y]).run Try.prog w = .ok (.int k (max x y)) w := by
  have e : max x y = if x < y then y else x := by split <;> omega
  rw [e]
  simp [Builtin.max_, Builtin.max2]

/-- the area's block: its runs -/
def AMem (w : World) (d : Nat) (l : List Rn) (F : List Nat) : Prop := ∃ v, Blk w d 51 #[v] ∧ SR w v l ∧ (∀ k ∈ d :: own v, k ∈ F) ∧ ∀ k ∈ F, k < w.heap.size
theorem AMem.chg {w w' : World} {d : Nat} {l : List Rn} {F G : List Nat} (h : AMem w d l F) (hc : Chg G w w') (hd : ∀ k ∈ F, k ∉ G) : AMem w' d l F := by
  obtain ⟨v, hb, hs, hF, hlt⟩ := h
  exact ⟨v, hb.chg hc (hd _ (hF _ (List.mem_cons_self ..))), hs.chg hc (fun k hk => hd k (hF k (List.mem_cons_of_mem _ hk))), hF, fun k hk => Nat.lt_of_lt_of_le (hlt k hk) hc.size⟩
theorem AMem.stay {w w' : World} {d : Nat} {l : List Rn} {F : List Nat} (h : AMem w d l F) (hc : Chg [] w w') : AMem w' d l F := h.chg hc (by simp)
theorem AMem.lt {w : World} {d : Nat} {l : List Rn} {F : List Nat} (h : AMem w d l F) : ∀ k ∈ F, k < w.heap.size := h.choose_spec.2.2.2
theorem AMem.mem {w : World} {d : Nat} {l : List Rn} {F : List Nat} (h : AMem w d l F) : d ∈ F := h.choose_spec.2.2.1 _ (List.mem_cons_self ..)
theorem Okl.get {l : List Rn} (h : Okl l) {k : Nat} (hk : k < l.length) : (-10000 ≤ l[k].p ∧ l[k].p ≤ 10000) ∧ -10000 ≤ l[k].c ∧ l[k].c ≤ 10000 := ⟨(h _ (List.getElem_mem hk)).p, (h _ (List.getElem_mem hk)).c⟩
theorem cntL_take {l : List Rn} {k : Nat} (hk : k < l.length) (page count : Int) : cntL (l.take (k + 1)) page count = cntL (l.take k) page count + ovl page count l[k] := by
  unfold cntL
  rw [List.take_succ_eq_append_getElem hk, List.map_append, List.sum_append]
  simp
theorem ovl_bd {page count : Int} (h1 : 0 ≤ count) (h2 : count ≤ 10000) (r : Rn) : 0 ≤ ovl page count r ∧ ovl page count r ≤ 10000 := by unfold ovl; omega
theorem cntL_bd {page count : Int} (h1 : 0 ≤ count) (h2 : count ≤ 10000) : ∀ l : List Rn, 0 ≤ cntL l page count ∧ cntL l page count ≤ 10000 * l.length
  | [] => by simp [cntL]
  | r :: l => by
    have ih := cntL_bd (page := page) h1 h2 l
    have := ovl_bd (page := page) h1 h2 r
    have e : cntL (r :: l) page count = ovl page count r + cntL l page count := by simp [cntL]
    rw [e, List.length_cons]
    omega
theorem Sp.okl {l : List Rn} (h : Sp l) : Okl l := fun r hr => by
  obtain ⟨h1, h2, h3, h4, h5⟩ := h.mem hr
  exact ⟨by omega, by omega⟩

set_option maxHeartbeats 2000000 in
theorem count_at {w : World} {d : Nat} {l : List Rn} {F : List Nat} (hm : AMem w d l F) (hl : Okl l) (hlen : l.length ≤ 1000) (page count : Int) (hp : 0 ≤ page ∧ page ≤ 1024) (hc : 0 ≤ count ∧ count ≤ 1024) :
    Calls Try.prog 31 #[.pointer (some ⟨d, 0, none⟩), .int .i64 page, .int .i64 count] w fun e w' => e = .returned (.int .i64 (cntL l page count)) ∧ Chg [] w w' := by
  obtain ⟨v, hb, hs, hF, hlt⟩ := hm
  obtain ⟨A, c0, rfl⟩ := hs.form
  have b0 := hb.cell 0
  simp at b0
  have hdl := hb.lt
  obtain ⟨hp1, hp2⟩ := hp
  obtain ⟨hc1, hc2⟩ := hc
  have Hs := hide hs
  have Hl := hide hl
  have Hb := hide hb
  clear hs hl hb hF hlt
  go_enter Try.func31, Try.ntmps31
  go_wp2_with fail
  go_loopw [14, 6] (fun i n wr => ∃ (k : Nat) (t : Int), k ≤ l.length ∧ i = .int .i64 k ∧ n = .int .i64 t ∧ Hid (t = cntL (l.take k) page count) ∧ Chg [] w wr) (fun i _ _ => l.length - (intOf i).toNat)
  case atStart => exact ⟨0, 0, by omega, rfl, rfl, hide (by simp [cntL]), Chg.refl _ _⟩
  case round =>
    obtain ⟨k, t, hk, rfl, rfl, ht, hch⟩ := hrel
    have hbt := cntL_bd (page := page) hc1 (by omega : count ≤ 10000) (l.take k)
    rw [← ht.out, List.length_take] at hbt
    obtain ⟨ht1, ht2⟩ : 0 ≤ t ∧ t ≤ 10000000 := by omega
    clear hbt
    by_cases hkt : k < l.length
    · have hsr := Hs.out.stay hch
      obtain ⟨g0, off, rfl⟩ := SE.addr hsr (by omega)
      obtain ⟨q0, q1, q2⟩ := RR.cells hsr.re hkt
      have hgl : g0 < wr.heap.size := hsr.own_lt g0 (by simp [own, Value.ownBlock])
      have hok := Hl.out.get hkt
      have hts := cntL_take hkt page count
      obtain ⟨r, hr⟩ : ∃ r, r = l[k] := ⟨_, rfl⟩
      rw [← hr] at q0 q1 q2 hok hts
      obtain ⟨⟨rp1, rp2⟩, rc1, rc2⟩ := hok
      clear hr hsr
      obtain ⟨p, c, g⟩ := r
      simp only at *
      obtain ⟨m1, hm1⟩ : ∃ m, m = min (p + c) (page + count) := ⟨_, rfl⟩
      obtain ⟨m2, hm2⟩ : ∃ m, m = max p page := ⟨_, rfl⟩
      obtain ⟨m3, hm3⟩ : ∃ m, m = max 0 (m1 - m2) := ⟨_, rfl⟩
      have u1 := fun ts ty w => run_min ts ty .i64 .i64 (p + c) (page + count) w
      have u2 := fun ts ty w => run_max ts ty .i64 .i64 p page w
      have u3 := fun ts ty w => run_max ts ty .i64 .i64 0 (m1 - m2) w
      rw [← hm1] at u1
      rw [← hm2] at u2
      rw [← hm3] at u3
      have hov : m3 = ovl page count ⟨p, c, g⟩ := by rw [hm3, hm1, hm2]; rfl
      obtain ⟨a1, a2⟩ : -100000 ≤ m1 ∧ m1 ≤ 100000 := by omega
      obtain ⟨a3, a4⟩ : -100000 ≤ m2 ∧ m2 ≤ 100000 := by omega
      obtain ⟨a5, a6⟩ : 0 ≤ m3 ∧ m3 ≤ 200000 := by omega
      have Hov : Hid (t + m3 = cntL (l.take (k + 1)) page count) := hide (by rw [hts, ht.out, hov])
      clear hm1 hm2 hm3 hts hov
      go_wp2_with fail
      refine wp_region_t [0, 5, 6, 0, 0, 0, 0, 0, 5, 0, 0, 0, 0, 0, 0] (List.replicate 15 none) (fun W => Blk W wr.heap.size 30 #[.int .i64 p, .int .i64 c, .int .u8 g]) (by kernel_rfl) (by kernel_rfl) (by kernel_rfl) ?_
      have hbx : Blk ((wr.alloc (.cells #[.int .i64 p, .int .i64 c, .int .u8 g] 30)).drew) wr.heap.size 30 #[.int .i64 p, .int .i64 c, .int .u8 g] := (Blk.new wr 30 _).drew
      go_wp2_with (first | (refine wpG_hload 30 _ rfl rfl (fun w' hw' => load_rn (by simpa using Blk.cell hw' 0) (by simpa using Blk.cell hw' 1) (by simpa using Blk.cell hw' 2)) hbx ?_; go_simp) | (refine wpG_calc rfl (fun K hK => ?_)) | (refine wpG_skip ?_ ?_; (focus (simp [wantG]; done)); go_simp) | (refine wpG_take ?_ ?_; (focus (simp [wantG]; done))) | (refine wpG_pure (fun K hK => ?_); go_simp; refine hK _ _ ?_; clear hK K) | (refine wpG_deed (by decide) (fun K hK => ?_); go_simp) | (refine wpG_nil ?_))
      (refine wpG_keeps hbx (fun K hK => ?_))
      go_simp
      refine (end_any p c g _ ⟨by omega, by omega⟩ ⟨by omega, by omega⟩).mono ?_
      rintro e W1 ⟨rfl, hc1⟩
      have hb1 := Blk.chg hbx hc1 List.not_mem_nil
      refine hK _ _ hb1 ?_
      clear hK K
      go_wp2_with (first | (refine wpG_hload 3 _ rfl rfl (fun w' hw' => load_int Try.underlying3 (by simpa using Blk.cell hw' 0)) hb1 ?_; go_simp) | (refine wpG_calc rfl (fun K hK => ?_)) | (refine wpG_skip ?_ ?_; (focus (simp [wantG]; done)); go_simp) | (refine wpG_take ?_ ?_; (focus (simp [wantG]; done))) | (refine wpG_pure (fun K hK => ?_); go_simp; refine hK _ _ ?_; clear hK K) | (refine wpG_deed (by decide) (fun K hK => ?_); go_simp) | (refine wpG_nil ?_))
      go_roundw
      case rel => exact ⟨k + 1, t + m3, by omega, by go_num, rfl, Hov, ((hch.alloc _).drew).stay hc1⟩
      case measure => simp [intOf]; omega
    · have ek : l.take k = l := List.take_of_length_le (by omega)
      rw [ek] at ht
      clear ek
      go_wp2_with fail
      go_ret
      refine ⟨?_, hch⟩
      show Ending.returned (.int .i64 t) = _
      rw [ht.out]
end Go.Proofs.Ytmgjknlpcnakiaa
