/- Texts merged for the claim: ArH, ArI, ArJ, ArK, Maps, MoA, MoB, MoC. -/
import Derived.Test.YtfoleblcaloeoaaGreatDoorZai
import Derived.Test.YtfoleblcaloeoaaGreatDoorZaa
import Derived.Test.YtfoleblcaloeoaaGreatDoorZah
import Derived.MapFrom
import Derived.Maps.Keyed
import Derived.Deep.MidRow
namespace Go.Proofs.YtfoleblcaloeoaaGreatDoor.Ar
open Go Go.RowKit

/-! ## With: what is put is small, plain -/
theorem nm_fin {lo g : Int} {l : List Rn} (h : Nm lo g l) {r : Rn} (hr : r ∈ l) : r.e ≤ (fin lo g l).1 := by
  induction l generalizing lo g with
  | nil => cases hr
  | cons a l ih =>
    obtain ⟨h1, h2, h3, h4, h5⟩ := h
    rcases List.mem_cons.1 hr with rfl | hr
    · exact fin_lo h5
    · exact ih h5 hr
theorem nm_len {lo g : Int} {l : List Rn} (h : Nm lo g l) : (l.length : Int) ≤ (fin lo g l).1 - lo := by
  induction l generalizing lo g with
  | nil => simp [fin]
  | cons a l ih =>
    obtain ⟨h1, h2, h3, h4, h5⟩ := h
    have := ih h5
    have e : a.e = a.p + a.c := rfl
    have e2 : (fin lo g (a :: l)).1 = (fin a.e a.g l).1 := rfl
    rw [e2, List.length_cons]
    omega
/-- runs in order, within the space -/
def Fit (l : List Rn) : Prop := Nm 0 0 l ∧ (fin 0 0 l).1 ≤ 2000
theorem Fit.ok {l : List Rn} (h : Fit l) : Okl l := fun r hr => by
  obtain ⟨h1, h2, h3⟩ := nm_mem h.1 hr
  have h4 := nm_fin h.1 hr
  have h5 := h.2
  have e : r.e = r.p + r.c := rfl
  exact ⟨by omega, by omega⟩
theorem Fit.get {l : List Rn} (h : Fit l) {k : Nat} (hk : k < l.length) : (0 ≤ l[k].p ∧ l[k].p ≤ 2000) ∧ 1 ≤ l[k].c ∧ l[k].c ≤ 2000 ∧ l[k].p + l[k].c ≤ 2000 := by
  have hr := List.getElem_mem hk
  obtain ⟨h1, h2, h3⟩ := nm_mem h.1 hr
  have h4 := nm_fin h.1 hr
  have h5 := h.2
  have e : l[k].e = l[k].p + l[k].c := rfl
  omega
theorem Fit.len {l : List Rn} (h : Fit l) : l.length ≤ 2000 := by have := nm_len h.1; have := h.2; omega
theorem Sp.fit {l : List Rn} (h : Sp l) : Fit l := by
  refine ⟨h.nm, ?_⟩
  rcases List.eq_nil_or_concat l with rfl | ⟨l', x, rfl⟩
  · simp [fin]
  · rw [List.concat_eq_append] at h ⊢
    rw [fin_snoc]
    have := h.mem (r := x) (by simp)
    have e : x.e = x.p + x.c := rfl
    show x.e ≤ 2000
    omega
theorem Fit.cut {l m : List Rn} (h : Fit (l ++ m)) : Fit l := by
  obtain ⟨h1, h2⟩ := h
  have cut : ∀ (l m : List Rn) {lo g : Int}, Nm lo g (l ++ m) → Nm lo g l ∧ (fin lo g l).1 ≤ (fin lo g (l ++ m)).1 := fun l => by
    induction l with
    | nil => intro m lo g h; exact ⟨trivial, fin_lo h⟩
    | cons a l ih => intro m lo g h; obtain ⟨x, y⟩ := ih m h.2.2.2.2; exact ⟨⟨h.1, h.2.1, h.2.2.1, h.2.2.2.1, x⟩, y⟩
  obtain ⟨x, y⟩ := cut _ _ h1
  exact ⟨x, by omega⟩
/-- the runs within a step -/
def st1 (page : Int) (s : List Rn × Bool) (r : Rn) : List Rn := putL s.1 ⟨r.p, min r.e page - r.p, r.g⟩
def st2 (page count g : Int) (s : List Rn × Bool) (r : Rn) : List Rn := if page < r.e then (if s.2 then st1 page s r else putL (st1 page s r) ⟨page, count, g⟩) else st1 page s r
def sd2 (page : Int) (s : List Rn × Bool) (r : Rn) : Bool := if page < r.e then true else s.2
theorem stepL_eq (page count g : Int) (s : List Rn × Bool) (r : Rn) : stepL page count g s r = (putL (st2 page count g s r) ⟨max r.p (page + count), r.e - max r.p (page + count), r.g⟩, sd2 page s r) := by
  unfold stepL st2 sd2 st1
  by_cases h : page < r.e
  · simp [h]
  · simp [h]
theorem step_fit {page count g : Int} (h0 : 0 ≤ page) (h1 : 1 ≤ count) (h2 : page + count ≤ 1024) {old : List Rn} {s : List Rn × Bool} (hs : Wth page count g old s) {r : Rn} (hr : Fit (old ++ [r])) : Fit s.1 ∧ Fit (st1 page s r) ∧ Fit (st2 page count g s r) := by
  obtain ⟨l, d⟩ := s
  obtain ⟨hnm, hno, hyes⟩ := hs
  obtain ⟨ho, hp, hc, hg, hm⟩ := (nm_snoc _ _ _ _).1 hr.1
  have hr2 := hr.2
  rw [fin_snoc] at hr2
  simp only at hr2
  have er : r.e = r.p + r.c := rfl
  cases d with
  | true =>
    obtain ⟨y1, y2, y3⟩ := hyes rfl
    simp only at y1 y2 y3 hnm
    have e1 : st1 page (l, true) r = l := putL_none (.inl (by show min r.e page - r.p < 1; omega))
    have e2 : st2 page count g (l, true) r = l := by unfold st2; rw [e1]; simp
    rw [e1, e2]
    have hf : Fit l := ⟨hnm, by omega⟩
    exact ⟨hf, hf, hf⟩
  | false =>
    obtain ⟨n1, n2, n3⟩ := hno rfl
    simp only at n1 n2 n3 hnm
    have hf : Fit l := ⟨hnm, by omega⟩
    obtain ⟨p1, p2, p3⟩ := putL_spec (r := ⟨r.p, min r.e page - r.p, r.g⟩) hnm (by show _ ≤ r.p; omega)
    have p2' : (fin 0 0 (st1 page (l, false) r)).1 ≤ min page r.e := by
      show (fin 0 0 (putL l ⟨r.p, min r.e page - r.p, r.g⟩)).1 ≤ _
      rw [p2]
      show (if (min r.e page - r.p < 1 ∨ r.g = 0) then _ else r.p + (min r.e page - r.p)) ≤ _
      split <;> omega
    have hf1 : Fit (st1 page (l, false) r) := ⟨p1, by omega⟩
    refine ⟨hf, hf1, ?_⟩
    unfold st2
    split
    · simp only [Bool.false_eq_true, if_false]
      obtain ⟨q1, q2, q3⟩ := putL_spec (r := ⟨page, count, g⟩) hf1.1 (by show _ ≤ page; omega)
      refine ⟨q1, ?_⟩
      rw [q2]
      show (if (count < 1 ∨ g = 0) then _ else page + count) ≤ _
      split <;> omega
    · exact hf1
theorem fold_take {page count g : Int} (h0 : 0 ≤ page) (h1 : 1 ≤ count) {l : List Rn} (hl : Fit l) (k : Nat) : Wth page count g (l.take k) ((l.take k).foldl (stepL page count g) ([], false)) := by
  have h := wth_fold (g := g) h0 h1 (l.take k) [] ([], false) ⟨trivial, fun _ => ⟨h0, Int.le_refl _, fun _ => rfl⟩, fun h => by cases h⟩ (by
    rw [List.nil_append]
    have : Fit (l.take k ++ l.drop k) := by rw [List.take_append_drop]; exact hl
    exact this.cut.1)
  simpa using h
theorem fold_fit {page count g : Int} (h0 : 0 ≤ page) (h1 : 1 ≤ count) (h2 : page + count ≤ 1024) {l : List Rn} (hl : Fit l) (k : Nat) : Fit ((l.take k).foldl (stepL page count g) ([], false)).1 := by
  obtain ⟨hnm, hno, hyes⟩ := fold_take (g := g) h0 h1 hl k
  have hc : Fit (l.take k) := by
    have : Fit (l.take k ++ l.drop k) := by rw [List.take_append_drop]; exact hl
    exact this.cut
  have := hc.2
  refine ⟨hnm, ?_⟩
  generalize (l.take k).foldl (stepL page count g) ([], false) = s at hno hyes ⊢
  cases e : s.2 with
  | true => have := (hyes e).2.1; omega
  | false => have := (hno e).2.1; omega
theorem fold_snoc {page count g : Int} {l : List Rn} {k : Nat} (hk : k < l.length) : (l.take (k + 1)).foldl (stepL page count g) ([], false) = stepL page count g ((l.take k).foldl (stepL page count g) ([], false)) l[k] := by
  rw [List.take_succ_eq_append_getElem hk, List.foldl_append]
  rfl
end Go.Proofs.YtfoleblcaloeoaaGreatDoor.Ar

namespace Go.Proofs.YtfoleblcaloeoaaGreatDoor.Ar
open Go Go.RowKit

theorem wst_new (w : World) (page count g : Int) : WSt w (((((w.alloc (.cells #[.int .i64 page] 3)).alloc (.cells #[.int .i64 count] 3)).alloc (.cells #[.int .u8 g] 5)).alloc (.cells #[.slice none 0 0] 140)).alloc (.cells #[.bool false] 4)) w.heap.size (w.heap.size + 1) (w.heap.size + 1 + 1) (w.heap.size + 1 + 1 + 1) (w.heap.size + 1 + 1 + 1 + 1) page count g (.slice none 0 0) [] false where
  chg := (((((Chg.refl _ _).alloc _).alloc _).alloc _).alloc _).alloc _
  p := ((((Blk.new w 3 _).alloc _).alloc _).alloc _).alloc _
  c := by
    have := Blk.new (w.alloc (.cells #[.int .i64 page] 3)) 3 #[.int .i64 count]
    rw [World.size_alloc] at this
    exact ((this.alloc _).alloc _).alloc _
  g := by
    have := Blk.new ((w.alloc (.cells #[.int .i64 page] 3)).alloc (.cells #[.int .i64 count] 3)) 5 #[.int .u8 g]
    rw [World.size_alloc, World.size_alloc] at this
    exact (this.alloc _).alloc _
  bl := by
    have := Blk.new (((w.alloc (.cells #[.int .i64 page] 3)).alloc (.cells #[.int .i64 count] 3)).alloc (.cells #[.int .u8 g] 5)) 140 #[.slice none 0 0]
    rw [World.size_alloc, World.size_alloc, World.size_alloc] at this
    exact this.alloc _
  d := by
    have := Blk.new ((((w.alloc (.cells #[.int .i64 page] 3)).alloc (.cells #[.int .i64 count] 3)).alloc (.cells #[.int .u8 g] 5)).alloc (.cells #[.slice none 0 0] 140)) 4 #[.bool false]
    rw [World.size_alloc, World.size_alloc, World.size_alloc, World.size_alloc] at this
    exact this
  s := SE.nil _ _ _ _
  nl := by omega
  nd := by omega
  nV := fun k hk => (own_nil hk).elim

theorem box3 {W : World} {b : Nat} {p c g : Int} (h : Blk W b 144 #[.int .i64 p, .int .i64 c, .int .u8 g]) : W.cell? ⟨b, 0, none⟩ = some (.int .i64 p) ∧ W.cell? ⟨b, 1, none⟩ = some (.int .i64 c) ∧ W.cell? ⟨b, 2, none⟩ = some (.int .u8 g) ∧ b < W.heap.size := ⟨by simpa using h.cell 0, by simpa using h.cell 1, by simpa using h.cell 2, h.lt⟩

set_option maxRecDepth 20000 in
set_option maxHeartbeats 4000000 in
theorem with_at {w : World} {d : Nat} {l : List Rn} {F : List Nat} (hm : AMem w d l F) (hl : Fit l) {page count g : Int} (h0 : 0 ≤ page) (h1 : 1 ≤ count) (h2 : page + count ≤ 1024) :
    Calls Tryz.prog 122 #[.pointer (some ⟨d, 0, none⟩), .int .i64 page, .int .i64 count, .int .u8 g] w fun e w' => ∃ A n c, e = .returned (.slice A n c) ∧ SR w' (.slice A n c) (withL l page count g) ∧ (∀ k ∈ own (.slice A n c), w.heap.size ≤ k) ∧ Chg [] w w' := by
  obtain ⟨v, hb, hs, hF, hlt⟩ := hm
  obtain ⟨A, c0, rfl⟩ := hs.form
  have b0 := hb.cell 0
  simp at b0
  have hdl := hb.lt
  have hll := hl.len
  have hc3 : count ≤ 1024 := by omega
  have hp3 : page ≤ 1024 := by omega
  have Hs := hide hs
  have Hl := hide hl
  have hw0 := wst_new w page count g
  have HW0 := hide hw0
  clear hs hl hb hF hlt hw0
  obtain ⟨d1, d2, d3, d4⟩ : d < w.heap.size + 1 ∧ d < w.heap.size + 1 + 1 ∧ d < w.heap.size + 1 + 1 + 1 ∧ d < w.heap.size + 1 + 1 + 1 + 1 := by omega
  go_enter Tryz.func122, Tryz.ntmps122
  go_wp2_with fail
  have hw0 := HW0.out
  clear HW0
  generalize (((((w.alloc (.cells #[.int .i64 page] 3)).alloc (.cells #[.int .i64 count] 3)).alloc (.cells #[.int .u8 g] 5)).alloc (.cells #[.slice none 0 0] 140)).alloc (.cells #[.bool false] 4)) = W0 at hw0 ⊢
  clear d1 d2 d3 d4
  generalize w.heap.size + 1 + 1 + 1 + 1 = bd at hw0 ⊢
  generalize w.heap.size + 1 + 1 + 1 = bl at hw0 ⊢
  generalize w.heap.size + 1 + 1 = bg at hw0 ⊢
  generalize w.heap.size + 1 = bc at hw0 ⊢
  obtain ⟨bp, hbp⟩ : ∃ bp, bp = w.heap.size := ⟨_, rfl⟩
  rw [← hbp] at hw0 ⊢
  clear hbp
  go_loopw [24] (fun i wr => ∃ (k : Nat) (A1 : Option Addr) (n1 c1 : Nat), k ≤ l.length ∧ i = .int .i64 k ∧ Hid (WSt w wr bp bc bg bl bd page count g (.slice A1 n1 c1) ((l.take k).foldl (stepL page count g) ([], false)).1 ((l.take k).foldl (stepL page count g) ([], false)).2)) (fun i _ => l.length - (intOf i).toNat)
  case atStart => exact ⟨0, none, 0, 0, by omega, rfl, hide hw0⟩
  case round =>
    obtain ⟨k, A1, n1, c1, hk, rfl, hwr⟩ := hrel
    clear hw0
    by_cases hkt : k < l.length
    · have hsr := Hs.out.stay hwr.out.chg
      obtain ⟨g0, off, rfl⟩ := SE.addr hsr (by omega)
      obtain ⟨q0, q1, q2⟩ := RR.cells hsr.re hkt
      have hgl : g0 < wr.heap.size := hsr.own_lt g0 (by simp [own, Value.ownBlock])
      have hok := Hl.out.get hkt
      have hfs := fold_snoc (page := page) (count := count) (g := g) hkt
      have hfit := step_fit h0 h1 h2 (fold_take (g := g) h0 h1 Hl.out k) (r := l[k]) (by
        rw [← List.take_succ_eq_append_getElem hkt]
        have : Fit (l.take (k + 1) ++ l.drop (k + 1)) := by rw [List.take_append_drop]; exact Hl.out
        exact this.cut)
      generalize (l.take k).foldl (stepL page count g) ([], false) = s at hwr hfs hfit
      obtain ⟨r, hr⟩ : ∃ r, r = l[k] := ⟨_, rfl⟩
      rw [← hr] at q0 q1 q2 hok hfs hfit
      obtain ⟨⟨rp1, rp2⟩, rc1, rc2, rc3⟩ := hok
      clear hr hsr
      have Hfs := hide hfs
      have Hfit := hide hfit
      clear hfs hfit
      obtain ⟨p, c, rg⟩ := r
      simp only at q0 q1 q2 rp1 rp2 rc1 rc2 rc3
      obtain ⟨m1, hm1⟩ : ∃ m, m = min (p + c) page := ⟨_, rfl⟩
      obtain ⟨m2, hm2⟩ : ∃ m, m = max p (page + count) := ⟨_, rfl⟩
      have u1 := fun ts ty w => run_min ts ty .i64 .i64 (p + c) page w
      have u2 := fun ts ty w => run_max ts ty .i64 .i64 p (page + count) w
      rw [← hm1] at u1
      rw [← hm2] at u2
      obtain ⟨a1, a2⟩ : 0 ≤ m1 ∧ m1 ≤ 2000 := by omega
      obtain ⟨a3, a4⟩ : 0 ≤ m2 ∧ m2 ≤ 4000 := by omega
      obtain ⟨a5, a6⟩ : -8000 ≤ m1 - p ∧ m1 - p ≤ 8000 := by omega
      obtain ⟨a7, a8⟩ : -8000 ≤ p + c - m2 ∧ p + c - m2 ≤ 8000 := by omega
      have Hm1 := hide hm1
      have Hm2 := hide hm2
      clear hm1 hm2
      go_wp2_with fail
      have hn0 : wr.heap.size ∉ own (.slice A1 n1 c1) := fun h => by have := hwr.out.s.own_lt _ h; omega
      have hw1 := hwr.out.stay ((Chg.refl [] wr).alloc (.cells #[.int .i64 p, .int .i64 c, .int .u8 rg] 144)).drew
      have hbx : Blk ((wr.alloc (.cells #[.int .i64 p, .int .i64 c, .int .u8 rg] 144)).drew) wr.heap.size 144 #[.int .i64 p, .int .i64 c, .int .u8 rg] := (Blk.new wr 144 _).drew
      have hdp : wr.heap.size < ((wr.alloc (.cells #[.int .i64 p, .int .i64 c, .int .u8 rg] 144)).drew).heap.size := hbx.lt
      clear q0 q1 q2 hgl hwr
      refine wp_region_t [5,0,5,5,6,5,0,0,5,0,0,5,0,3,3] (List.replicate 15 none) (fun W => Blk W bl 140 #[.slice A1 n1 c1] ∧ Blk W wr.heap.size 144 #[.int .i64 p, .int .i64 c, .int .u8 rg] ∧ Blk W bp 3 #[.int .i64 page]) (by kernel_rfl) (by kernel_rfl) (by kernel_rfl) ?_
      generalize (wr.alloc (.cells #[.int .i64 p, .int .i64 c, .int .u8 rg] 144)).drew = W1 at hw1 hbx hdp ⊢
      generalize wr.heap.size = br at hn0 hbx hdp ⊢
      go_wp2_with (first | (refine wpG_hload 140 _ rfl rfl (fun w' hw' => load_slice Tryz.underlying140 (by simpa using Blk.cell hw'.1 0)) ⟨hw1.bl, hbx, hw1.p⟩ ?_; go_simp) | (refine wpG_hload 3 _ rfl rfl (fun w' hw' => load_int Tryz.underlying3 (by simpa using Blk.cell hw'.2.1 0)) ⟨hw1.bl, hbx, hw1.p⟩ ?_; go_simp) | (refine wpG_hload 144 _ rfl rfl (fun w' hw' => load_rn (by simpa using Blk.cell hw'.2.1 0) (by simpa using Blk.cell hw'.2.1 1) (by simpa using Blk.cell hw'.2.1 2)) ⟨hw1.bl, hbx, hw1.p⟩ ?_; go_simp) | (refine wpG_calc rfl (fun K hK => ?_)) | (refine wpG_skip ?_ ?_; (focus (simp [wantG]; done)); go_simp) | (refine wpG_take ?_ ?_; (focus (simp [wantG]; done))) | (refine wpG_pure (fun K hK => ?_); go_simp; refine hK _ _ ?_; clear hK K) | (refine wpG_deed (by decide) (fun K hK => ?_); go_simp) | (refine wpG_nil ?_))
      (refine wpG_keeps ⟨hw1.bl, hbx, hw1.p⟩ (fun K hK => ?_))
      go_simp
      refine (end_any p c rg _ ⟨by omega, by omega⟩ ⟨by omega, by omega⟩).mono ?_
      rintro e W2 ⟨rfl, hc2⟩
      have hw2 := hw1.stay hc2
      have hbx2 := Blk.chg hbx hc2 List.not_mem_nil
      have hdp2 : br < W2.heap.size := hbx2.lt
      refine hK _ _ ⟨hw2.bl, hbx2, hw2.p⟩ ?_
      clear hK K hw1 hbx hdp hc2
      have HP1 := hide (put_any (r := ⟨p, m1 - p, rg⟩) hw2.s Hfit.out.1.ok ⟨⟨by show _ ≤ p; omega, by show p ≤ _; omega⟩, by show _ ≤ m1 - p; omega, by show m1 - p ≤ _; omega⟩ (by have := Hfit.out.1.len; omega))
      have Hw2 := hide hw2
      go_wp2_with (first | (refine wpG_hload 3 _ rfl rfl (fun w' hw' => load_int Tryz.underlying3 (by simpa using Blk.cell hw'.2.2 0)) ⟨hw2.bl, hbx2, hw2.p⟩ ?_; go_simp) | (refine wpG_hload 3 _ rfl rfl (fun w' hw' => load_int Tryz.underlying3 (by simpa using Blk.cell hw'.2.1 0)) ⟨hw2.bl, hbx2, hw2.p⟩ ?_; go_simp) | (refine wpG_hload 5 _ rfl rfl (fun w' hw' => load_int Tryz.underlying5 (by simpa using Blk.cell hw'.2.1 2)) ⟨hw2.bl, hbx2, hw2.p⟩ ?_; go_simp) | (refine wpG_calc rfl (fun K hK => ?_)) | (refine wpG_skip ?_ ?_; (focus (simp [wantG]; done)); go_simp) | (refine wpG_take ?_ ?_; (focus (simp [wantG]; done))) | (refine wpG_pure (fun K hK => ?_); go_simp; refine hK _ _ ?_; clear hK K) | (refine wpG_deed (by decide) (fun K hK => ?_); go_simp) | (refine wpG_nil ?_))
      refine HP1.out.mono ?_
      rintro e W3 ⟨A3, n3, c3, rfl, hs3, hc3', hg3⟩
      have hw2' := Hw2.out
      obtain ⟨y1, y2, y3, y4, y5⟩ := hw2'.kept hc3'
      have hw3 := hw2'.put hs3 hc3' hg3
      have hbx3 := (Blk.chg hbx2 hc3' hn0).far (p := ⟨bl, 0, none⟩) (hbx2.ne_ hw2'.bl (by decide)) (.slice A3 n3 c3)
      have hn3 : br ∉ own (.slice A3 n3 c3) := fun h => (hg3 _ h).elim hn0 (fun h' => by omega)
      clear hw2' Hw2 HP1 hc3' hg3 hs3 hn0 hbx2 hw2
      go_wp2_with (first | fail | (refine wpG_calc rfl (fun K hK => ?_)) | (refine wpG_skip ?_ ?_; (focus (simp [wantG]; done)); go_simp) | (refine wpG_take ?_ ?_; (focus (simp [wantG]; done))) | (refine wpG_pure (fun K hK => ?_); go_simp; refine hK _ _ ?_; clear hK K) | (refine wpG_deed (by decide) (fun K hK => ?_); go_simp) | (refine wpG_nil ?_))
      have hdp3 := hbx3.lt
      generalize W3.setCell ⟨bl, 0, none⟩ (.slice A3 n3 c3) = W4 at hw3 hbx3 hdp3 ⊢
      clear y1 y2 y3 y4 y5 hdp2
      have hw4 := hw3.stay (Chg.refl [] W4).drew
      have hbx4 := hbx3.drew
      have Hfit3 : Hid (Fit (st1 page s ⟨p, c, rg⟩)) := hide Hfit.out.2.1
      have hw4' : WSt w W4.drew bp bc bg bl bd page count g (.slice A3 n3 c3) (st1 page s ⟨p, c, rg⟩) s.2 := by rw [Hm1.out] at hw4; exact hw4
      clear hw3 hbx3 hw4
      refine wp_region_t [5,6,5,0] (List.replicate 4 none) (fun W => Blk W br 144 #[.int .i64 p, .int .i64 c, .int .u8 rg] ∧ Blk W bp 3 #[.int .i64 page]) (by kernel_rfl) (by kernel_rfl) (by kernel_rfl) ?_
      go_wp2_with (first | (refine wpG_hload 144 _ rfl rfl (fun w' hw' => load_rn (by simpa using Blk.cell hw'.1 0) (by simpa using Blk.cell hw'.1 1) (by simpa using Blk.cell hw'.1 2)) ⟨hbx4, hw4'.p⟩ ?_; go_simp) | (refine wpG_calc rfl (fun K hK => ?_)) | (refine wpG_skip ?_ ?_; (focus (simp [wantG]; done)); go_simp) | (refine wpG_take ?_ ?_; (focus (simp [wantG]; done))) | (refine wpG_pure (fun K hK => ?_); go_simp; refine hK _ _ ?_; clear hK K) | (refine wpG_deed (by decide) (fun K hK => ?_); go_simp) | (refine wpG_nil ?_))
      (refine wpG_keeps ⟨hbx4, hw4'.p⟩ (fun K hK => ?_))
      go_simp
      refine (end_any p c rg _ ⟨by omega, by omega⟩ ⟨by omega, by omega⟩).mono ?_
      rintro e W5 ⟨rfl, hc5⟩
      have hw5 := hw4'.stay hc5
      have hbx5 := Blk.chg hbx4 hc5 List.not_mem_nil
      refine hK _ _ ⟨hbx5, hw5.p⟩ ?_
      clear hK K hw4' hbx4 hc5
      obtain ⟨d2, hd2⟩ : ∃ d2, sd2 page s ⟨p, c, rg⟩ = d2 := ⟨_, rfl⟩
      obtain ⟨L2, hL2⟩ : ∃ L2, st2 page count g s ⟨p, c, rg⟩ = L2 := ⟨_, rfl⟩
      have Hd2 := hide hd2
      have HL2 := hide hL2
      clear hd2 hL2
      have hcont : Hid (∀ (W : World) (A : Option Addr) (n c0 : Nat), True → True) := hide fun _ _ _ _ h => h
      clear hcont
      have hdp5 := hbx5.lt
      by_cases hgt : page < p + c
      · have e2 : (if s.2 = true then st1 page s ⟨p, c, rg⟩ else putL (st1 page s ⟨p, c, rg⟩) ⟨page, count, g⟩) = L2 := by rw [← HL2.out]; unfold st2; rw [if_pos (show page < (⟨p, c, rg⟩ : Rn).e from hgt)]
        have ed2 : true = d2 := by rw [← Hd2.out]; unfold sd2; rw [if_pos (show page < (⟨p, c, rg⟩ : Rn).e from hgt)]
        subst ed2
        have HI := hide (in_any hw5 Hfit3.out.ok (by have := Hfit3.out.len; omega) ⟨⟨by show _ ≤ page; omega, by show page ≤ _; omega⟩, by show _ ≤ count; omega, by show count ≤ _; omega⟩)
        rw [e2] at HI
        clear e2
        have Hw5 := hide hw5
        have hnl : br ∉ bl :: bd :: own (.slice A3 n3 c3) := fun h => by
          rcases List.mem_cons.1 h with h | h
          · exact hbx5.ne_ Hw5.out.bl (by decide) h
          · rcases List.mem_cons.1 h with h | h
            · exact hbx5.ne_ Hw5.out.d (by decide) h
            · exact hn3 h
        go_wp2_with (first | (refine wpG_hload 3 _ rfl rfl (fun w' hw' => load_int Tryz.underlying3 (by simpa using Blk.cell hw'.2 0)) ⟨hbx5, hw5.p⟩ ?_; go_simp) | (go_at_call 138; refine HI.out.mono ?_; rintro e W6 ⟨rfl, ⟨A6, n6, c6, hw6, hg6⟩, hc6⟩; have hbx6 := hbx5.chg hc6 hnl; obtain ⟨e0, e1, e2, hdp6⟩ := box3 hbx6) | (refine wpG_calc rfl (fun K hK => ?_)) | (refine wpG_skip ?_ ?_; (focus (simp [wantG]; done)); go_simp) | (refine wpG_take ?_ ?_; (focus (simp [wantG]; done))) | (refine wpG_pure (fun K hK => ?_); go_simp; refine hK _ _ ?_; clear hK K) | (refine wpG_deed (by decide) (fun K hK => ?_); go_simp) | (refine wpG_nil ?_))
        have Hfit2 : Hid (Fit L2) := hide (by rw [← HL2.out]; exact Hfit.out.2.2)
        clear hbx5 hc6 hnl hdp5 HI Hw5 hw5 hg6
        clear e0 e1 e2
        have hw7 := hw6.stay (Chg.refl [] W6).drew
        have hbx7 := hbx6.drew
        clear hw6 hbx6
        refine wp_region_t [5,0,5,6,0,0,0,5,0,3,3] (List.replicate 11 none) (fun W => Blk W bl 140 #[.slice A6 n6 c6] ∧ Blk W br 144 #[.int .i64 p, .int .i64 c, .int .u8 rg]) (by kernel_rfl) (by kernel_rfl) (by kernel_rfl) ?_
        go_wp2_with (first | (refine wpG_hload 140 _ rfl rfl (fun w' hw' => load_slice Tryz.underlying140 (by simpa using Blk.cell hw'.1 0)) ⟨hw7.bl, hbx7⟩ ?_; go_simp) | (refine wpG_hload 144 _ rfl rfl (fun w' hw' => load_rn (by simpa using Blk.cell hw'.2 0) (by simpa using Blk.cell hw'.2 1) (by simpa using Blk.cell hw'.2 2)) ⟨hw7.bl, hbx7⟩ ?_; go_simp) | (refine wpG_calc rfl (fun K hK => ?_)) | (refine wpG_skip ?_ ?_; (focus (simp [wantG]; done)); go_simp) | (refine wpG_take ?_ ?_; (focus (simp [wantG]; done))) | (refine wpG_pure (fun K hK => ?_); go_simp; refine hK _ _ ?_; clear hK K) | (refine wpG_deed (by decide) (fun K hK => ?_); go_simp) | (refine wpG_nil ?_))
        (refine wpG_keeps ⟨hw7.bl, hbx7⟩ (fun K hK => ?_))
        go_simp
        refine (end_any p c rg _ ⟨by omega, by omega⟩ ⟨by omega, by omega⟩).mono ?_
        rintro e W8 ⟨rfl, hc8⟩
        have hw8 := hw7.stay hc8
        have hbx8 := Blk.chg hbx7 hc8 List.not_mem_nil
        refine hK _ _ ⟨hw8.bl, hbx8⟩ ?_
        clear hK K hw7 hbx7 hc8
        have HP8 := hide (put_any (r := ⟨m2, p + c - m2, rg⟩) hw8.s Hfit2.out.ok ⟨⟨by show _ ≤ m2; omega, by show m2 ≤ _; omega⟩, by show _ ≤ p + c - m2; omega, by show p + c - m2 ≤ _; omega⟩ (by have := Hfit2.out.len; omega))
        have Hw8 := hide hw8
        go_wp2_with (first | (refine wpG_hload 5 _ rfl rfl (fun w' hw' => load_int Tryz.underlying5 (by simpa using Blk.cell hw'.2 2)) ⟨hw8.bl, hbx8⟩ ?_; go_simp) | (refine wpG_calc rfl (fun K hK => ?_)) | (refine wpG_skip ?_ ?_; (focus (simp [wantG]; done)); go_simp) | (refine wpG_take ?_ ?_; (focus (simp [wantG]; done))) | (refine wpG_pure (fun K hK => ?_); go_simp; refine hK _ _ ?_; clear hK K) | (refine wpG_deed (by decide) (fun K hK => ?_); go_simp) | (refine wpG_nil ?_))
        refine HP8.out.mono ?_
        rintro e W9 ⟨A9, n9, c9, rfl, hs9, hc9, hg9⟩
        have hw8' := Hw8.out
        obtain ⟨y1, y2, y3, y4, y5⟩ := hw8'.kept hc9
        have hw9 := hw8'.put hs9 hc9 hg9
        clear hw8' Hw8 HP8 hc9 hg9 hs9 hbx8 hw8
        go_wp2_with (first | fail | (refine wpG_calc rfl (fun K hK => ?_)) | (refine wpG_skip ?_ ?_; (focus (simp [wantG]; done)); go_simp) | (refine wpG_take ?_ ?_; (focus (simp [wantG]; done))) | (refine wpG_pure (fun K hK => ?_); go_simp; refine hK _ _ ?_; clear hK K) | (refine wpG_deed (by decide) (fun K hK => ?_); go_simp) | (refine wpG_nil ?_))
        go_roundw
        case rel => exact ⟨k + 1, A9, n9, c9, by omega, by go_num, hide (by
          rw [Hfs.out, stepL_eq, HL2.out, Hd2.out]
          rw [Hm2.out] at hw9
          exact hw9)⟩
        case measure => simp [intOf]; omega
      · have ed2 : s.2 = d2 := by rw [← Hd2.out]; unfold sd2; rw [if_neg (show ¬ page < (⟨p, c, rg⟩ : Rn).e from hgt)]
        have e2 : st1 page s ⟨p, c, rg⟩ = L2 := by rw [← HL2.out]; unfold st2; rw [if_neg (show ¬ page < (⟨p, c, rg⟩ : Rn).e from hgt)]
        rw [ed2, e2] at hw5
        clear ed2 e2
        have Hfit2 : Hid (Fit L2) := hide (by rw [← HL2.out]; exact Hfit.out.2.2)
        obtain ⟨e0, e1, e2, hdp6⟩ := box3 hbx5
        clear hdp5
        go_wp2_with (first | (refine wpG_hload 3 _ rfl rfl (fun w' hw' => load_int Tryz.underlying3 (by simpa using Blk.cell hw'.2 0)) ⟨hbx5, hw5.p⟩ ?_; go_simp) | (refine wpG_calc rfl (fun K hK => ?_)) | (refine wpG_skip ?_ ?_; (focus (simp [wantG]; done)); go_simp) | (refine wpG_take ?_ ?_; (focus (simp [wantG]; done))) | (refine wpG_pure (fun K hK => ?_); go_simp; refine hK _ _ ?_; clear hK K) | (refine wpG_deed (by decide) (fun K hK => ?_); go_simp) | (refine wpG_nil ?_))
        have hw6 := hw5
        have hbx6 := hbx5
        clear hw5 hbx5 e0 e1 e2
        have hw7 := hw6.stay (Chg.refl [] W5).drew
        have hbx7 := hbx6.drew
        clear hw6 hbx6
        refine wp_region_t [5,0,5,6,0,0,0,5,0,3,3] (List.replicate 11 none) (fun W => Blk W bl 140 #[.slice A3 n3 c3] ∧ Blk W br 144 #[.int .i64 p, .int .i64 c, .int .u8 rg]) (by kernel_rfl) (by kernel_rfl) (by kernel_rfl) ?_
        go_wp2_with (first | (refine wpG_hload 140 _ rfl rfl (fun w' hw' => load_slice Tryz.underlying140 (by simpa using Blk.cell hw'.1 0)) ⟨hw7.bl, hbx7⟩ ?_; go_simp) | (refine wpG_hload 144 _ rfl rfl (fun w' hw' => load_rn (by simpa using Blk.cell hw'.2 0) (by simpa using Blk.cell hw'.2 1) (by simpa using Blk.cell hw'.2 2)) ⟨hw7.bl, hbx7⟩ ?_; go_simp) | (refine wpG_calc rfl (fun K hK => ?_)) | (refine wpG_skip ?_ ?_; (focus (simp [wantG]; done)); go_simp) | (refine wpG_take ?_ ?_; (focus (simp [wantG]; done))) | (refine wpG_pure (fun K hK => ?_); go_simp; refine hK _ _ ?_; clear hK K) | (refine wpG_deed (by decide) (fun K hK => ?_); go_simp) | (refine wpG_nil ?_))
        (refine wpG_keeps ⟨hw7.bl, hbx7⟩ (fun K hK => ?_))
        go_simp
        refine (end_any p c rg _ ⟨by omega, by omega⟩ ⟨by omega, by omega⟩).mono ?_
        rintro e W8 ⟨rfl, hc8⟩
        have hw8 := hw7.stay hc8
        have hbx8 := Blk.chg hbx7 hc8 List.not_mem_nil
        refine hK _ _ ⟨hw8.bl, hbx8⟩ ?_
        clear hK K hw7 hbx7 hc8
        have HP8 := hide (put_any (r := ⟨m2, p + c - m2, rg⟩) hw8.s Hfit2.out.ok ⟨⟨by show _ ≤ m2; omega, by show m2 ≤ _; omega⟩, by show _ ≤ p + c - m2; omega, by show p + c - m2 ≤ _; omega⟩ (by have := Hfit2.out.len; omega))
        have Hw8 := hide hw8
        go_wp2_with (first | (refine wpG_hload 5 _ rfl rfl (fun w' hw' => load_int Tryz.underlying5 (by simpa using Blk.cell hw'.2 2)) ⟨hw8.bl, hbx8⟩ ?_; go_simp) | (refine wpG_calc rfl (fun K hK => ?_)) | (refine wpG_skip ?_ ?_; (focus (simp [wantG]; done)); go_simp) | (refine wpG_take ?_ ?_; (focus (simp [wantG]; done))) | (refine wpG_pure (fun K hK => ?_); go_simp; refine hK _ _ ?_; clear hK K) | (refine wpG_deed (by decide) (fun K hK => ?_); go_simp) | (refine wpG_nil ?_))
        refine HP8.out.mono ?_
        rintro e W9 ⟨A9, n9, c9, rfl, hs9, hc9, hg9⟩
        have hw8' := Hw8.out
        obtain ⟨y1, y2, y3, y4, y5⟩ := hw8'.kept hc9
        have hw9 := hw8'.put hs9 hc9 hg9
        clear hw8' Hw8 HP8 hc9 hg9 hs9 hbx8 hw8
        go_wp2_with (first | fail | (refine wpG_calc rfl (fun K hK => ?_)) | (refine wpG_skip ?_ ?_; (focus (simp [wantG]; done)); go_simp) | (refine wpG_take ?_ ?_; (focus (simp [wantG]; done))) | (refine wpG_pure (fun K hK => ?_); go_simp; refine hK _ _ ?_; clear hK K) | (refine wpG_deed (by decide) (fun K hK => ?_); go_simp) | (refine wpG_nil ?_))
        go_roundw
        case rel => exact ⟨k + 1, A9, n9, c9, by omega, by go_num, hide (by
          rw [Hfs.out, stepL_eq, HL2.out, Hd2.out]
          rw [Hm2.out] at hw9
          exact hw9)⟩
        case measure => simp [intOf]; omega
    · have ek : l.take k = l := List.take_of_length_le (by omega)
      rw [ek] at hwr
      clear ek
      have hff := fold_fit (g := g) h0 h1 h2 Hl.out l.length
      rw [List.take_length] at hff
      have HI := hide (in_any hwr.out hff.ok (by have := hff.len; omega) ⟨⟨by show _ ≤ page; omega, by show page ≤ _; omega⟩, by show _ ≤ count; omega, by show count ≤ _; omega⟩)
      have ew : (if (l.foldl (stepL page count g) ([], false)).2 = true then (l.foldl (stepL page count g) ([], false)).1 else putL (l.foldl (stepL page count g) ([], false)).1 ⟨page, count, g⟩) = withL l page count g := rfl
      rw [ew] at HI
      clear ew hff hwr
      obtain ⟨L9, hL9⟩ : ∃ L9, withL l page count g = L9 := ⟨_, rfl⟩
      rw [hL9] at HI
      have H9 := hide hL9
      clear hL9
      go_wp2_with (go_at_call 138; refine HI.out.mono ?_; rintro e W6 ⟨rfl, ⟨A6, n6, c6, hw6, hg6⟩, hc6⟩; have hcs := hw6.cells; obtain ⟨z0, z1, z2, z3, z4, z5, z6⟩ := hcs)
      have hw7 := hw6.put hw6.s ((Chg.refl _ _).mono (fun _ h => .inl h)) (Grow.refl _ _)
      have z7 := hw7.cells.2.2.2.1
      exact bodyPost_ret (v := .slice A6 n6 c6) (by simp [results, Tryz.results122, go_sem, z7]) rfl ⟨A6, n6, c6, rfl, by rw [H9.out]; exact hw7.s, hw7.nV, hw7.chg⟩
end Go.Proofs.YtfoleblcaloeoaaGreatDoor.Ar

namespace Go.Proofs.YtfoleblcaloeoaaGreatDoor.Ar
open Go Go.RowKit

theorem AMem.set {w w' : World} {d : Nat} {l m : List Rn} {F : List Nat} {A : Option Addr} {n c : Nat} (h : AMem w d l F) (hc : Chg [] w w') (hs : SR w' (.slice A n c) m) (hn : ∀ k ∈ own (.slice A n c), w.heap.size ≤ k) :
    AMem (w'.setCell ⟨d, 0, none⟩ (.slice A n c)) d m (d :: own (.slice A n c)) := by
  obtain ⟨v, hb, hs0, hF, hlt⟩ := h
  have hb' := hb.chg hc (by simp)
  refine ⟨.slice A n c, ?_, ?_, fun k hk => hk, fun k hk => ?_⟩
  · have := hb'.set_ 0 (.slice A n c)
    simpa using this
  · exact Sl.far hs (p := ⟨d, 0, none⟩) (fun e => blk_off hs hb' (by decide) (own_mem.2 e)) _
  · rw [size_set]
    rcases List.mem_cons.1 hk with rfl | hk
    · exact hb'.lt
    · exact hs.own_lt k hk
/-- what an operation of an area leaves -/
def AOp (w : World) (d : Nat) (F : List Nat) (m : List Rn) (x : Int) (e : Ending) (w' : World) : Prop := e = .returned (.int .i64 x) ∧ (∃ F', AMem w' d m F' ∧ Step F F' w) ∧ Chg F w w'
theorem AOp.none {w w' : World} {d : Nat} {F : List Nat} {m : List Rn} {x : Int} (h : AMem w d m F) (hc : Chg [] w w') : AOp w d F m x (.returned (.int .i64 x)) w' := ⟨rfl, ⟨F, h.stay hc, Step.refl _ _⟩, hc.up _⟩
set_option maxHeartbeats 1000000 in
theorem set_at {w w1 : World} {d : Nat} {l m : List Rn} {F : List Nat} {A : Option Addr} {n c : Nat} (h : AMem w d l F) (hc : Chg [] w w1) (hs : SR w1 (.slice A n c) m) (hn : ∀ k ∈ own (.slice A n c), w.heap.size ≤ k) (hm : m.length ≤ 100000) :
    Calls Tryz.prog 121 #[.pointer (some ⟨d, 0, none⟩), .slice A n c] w1 (AOp w d F (setR l m) (setE m)) := by
  have e2 : n = m.length := by
    obtain ⟨A', c', e⟩ := hs.form
    injection e
  have hd := h.mem
  have hfz : w1.frozen? ⟨d, 0, none⟩ = false := (h.choose_spec.1.chg hc (by simp)).frozen 0
  have hcell := ((h.choose_spec.1.chg hc (by simp)).cell 0)
  simp at hcell
  have He2 := hide e2
  have hmn : n ≤ 100000 := by omega
  by_cases hbig : 32 < n
  · have e1 : setE m = 9 := by unfold setE; rw [if_pos (by omega)]
    have e3 : setR l m = l := by unfold setR; rw [if_pos (by omega)]
    rw [e1, e3]
    clear e2 e1 e3
    go_enter Tryz.func121, Tryz.ntmps121
    go_wp2_with fail
    go_ret
    exact AOp.none h hc
  · have e1 : setE m = 0 := by unfold setE; rw [if_neg (by omega)]
    have e3 : setR l m = m := by unfold setR; rw [if_neg (by omega)]
    rw [e1, e3]
    clear e2 e1 e3
    go_enter Tryz.func121, Tryz.ntmps121
    go_wp2_with fail
    go_ret
    exact ⟨rfl, ⟨_, h.set hc hs hn, fun k hk => (List.mem_cons.1 hk).elim (fun e => .inl (e ▸ hd)) (fun h' => .inr (hn k h'))⟩, (hc.up F).setCell (.inl hd) _⟩
theorem Okm {l : List Rn} (h : Fit l) {page count g : Int} (h0 : 0 ≤ page) (h1 : 1 ≤ count) (h2 : page + count ≤ 1024) : (withL l page count g).length ≤ 100000 := by
  have hf := fold_fit (g := g) h0 h1 h2 h l.length
  have hw := (with_spec (g := g) h.1 h0 h1).1
  have hwf := fold_take (g := g) h0 h1 h l.length
  rw [List.take_length] at hf hwf
  have h3 := hf.len
  have : ∀ (m : List Rn) (r : Rn), (putL m r).length ≤ m.length + 1 := fun m r => by
    unfold putL
    split
    · omega
    · split
      · simp
      · split
        · simp
        · simp
  unfold withL endL
  split
  · omega
  · have := this (l.foldl (stepL page count g) ([], false)).1 ⟨page, count, g⟩
    omega
set_option maxHeartbeats 1000000 in
theorem map_at {w : World} {d : Nat} {l : List Rn} {F : List Nat} (h : AMem w d l F) (hs : Sp l) (page count g : Int) : Calls Tryz.prog 95 #[.pointer (some ⟨d, 0, none⟩), .int .i64 page, .int .i64 count, .int .u8 g] w (AOp w d F (mapR l page count g) (mapE l page count g)) := by
  cases hb : mayB page count with
  | false =>
    have e1 : mapE l page count g = 2 := by unfold mapE; rw [if_pos (.inl hb)]
    have e3 : mapR l page count g = l := by unfold mapR; rw [if_pos (.inl hb)]
    rw [e1, e3]
    clear e1 e3
    have H := hide h
    clear h
    go_enter Tryz.func95, Tryz.ntmps95
    go_wp2_with (first | ((go_at_call 100; refine (may_any _ _ _).mono ?_; rintro e w' ⟨rfl, rfl⟩)) | ((go_at_call 120; refine (rightful_any _ _).mono ?_; rintro e w' ⟨rfl, rfl⟩)))
    go_ret
    exact AOp.none H.out (Chg.refl _ _)
  | true =>
    cases hg : rgB g with
    | false =>
      have e1 : mapE l page count g = 2 := by unfold mapE; rw [if_pos (.inr hg)]
      have e3 : mapR l page count g = l := by unfold mapR; rw [if_pos (.inr hg)]
      rw [e1, e3]
      clear e1 e3
      have H := hide h
      clear h
      go_enter Tryz.func95, Tryz.ntmps95
      go_wp2_with (first | ((go_at_call 100; refine (may_any _ _ _).mono ?_; rintro e w' ⟨rfl, rfl⟩)) | ((go_at_call 120; refine (rightful_any _ _).mono ?_; rintro e w' ⟨rfl, rfl⟩)))
      go_ret
      exact AOp.none H.out (Chg.refl _ _)
    | true =>
      have hm := mayB_iff.1 hb
      obtain ⟨m1, m2, m3, m4⟩ := hm
      have HC := hide (count_at h hs.okl (by have := hs.len; omega) page count ⟨m1, by omega⟩ ⟨by omega, m3⟩)
      have hbd := cnt_le hs.nm (page := page) (count := count) (by omega)
      by_cases hcnt : 0 < cntL l page count
      · have e1 : mapE l page count g = 8 := by unfold mapE; rw [if_neg (by simp [hb, hg]), if_pos hcnt]
        have e3 : mapR l page count g = l := by unfold mapR; rw [if_neg (by simp [hb, hg]), if_pos hcnt]
        rw [e1, e3]
        clear e1 e3
        have H := hide h
        clear h
        generalize cntL l page count = x at HC hcnt hbd
        go_enter Tryz.func95, Tryz.ntmps95
        go_wp2_with (first | ((go_at_call 100; refine (may_any _ _ _).mono ?_; rintro e w' ⟨rfl, rfl⟩)) | ((go_at_call 120; refine (rightful_any _ _).mono ?_; rintro e w' ⟨rfl, rfl⟩)) | (go_at_call 101; refine HC.out.mono ?_; rintro e w1 ⟨rfl, hc1⟩))
        go_ret
        exact AOp.none H.out hc1
      · have e1 : mapE l page count g = setE (withL l page count g) := by unfold mapE; rw [if_neg (by simp [hb, hg]), if_neg hcnt]
        have e3 : mapR l page count g = setR l (withL l page count g) := by unfold mapR; rw [if_neg (by simp [hb, hg]), if_neg hcnt]
        rw [e1, e3]
        clear e1 e3
        have HW := hide (fun W (hc : Chg [] w W) => with_at (g := g) (h.stay hc) hs.fit m1 m2 (by omega : page + count ≤ 1024))
        have HS := hide (fun W A n c (hc : Chg [] w W) (hs : SR W (.slice A n c) (withL l page count g)) hn => set_at h hc hs hn (Okm ‹Sp l›.fit m1 m2 (by omega)))
        have H := hide h
        clear h
        generalize cntL l page count = x at HC hcnt hbd
        go_enter Tryz.func95, Tryz.ntmps95
        go_wp2_with (first | ((go_at_call 100; refine (may_any _ _ _).mono ?_; rintro e w' ⟨rfl, rfl⟩)) | ((go_at_call 120; refine (rightful_any _ _).mono ?_; rintro e w' ⟨rfl, rfl⟩)) | (go_at_call 101; refine HC.out.mono ?_; rintro e w1 ⟨rfl, hc1⟩) | (go_at_call 122; refine (HW.out _ hc1).mono ?_; rintro e w2 ⟨A2, n2, c2, rfl, hs2, hn2, hc2⟩) | (go_at_call 121; refine (HS.out _ _ _ _ (hc1.stay hc2) hs2 (fun k hk => Nat.le_trans hc1.size (hn2 k hk))).mono ?_; rintro e w3 ⟨rfl, hm3, hc3⟩))
        go_ret
        exact ⟨rfl, hm3, hc3⟩
set_option maxHeartbeats 1000000 in
theorem un_at {w : World} {d : Nat} {l : List Rn} {F : List Nat} (h : AMem w d l F) (hs : Sp l) (page count : Int) : Calls Tryz.prog 96 #[.pointer (some ⟨d, 0, none⟩), .int .i64 page, .int .i64 count] w (AOp w d F (unR l page count) (unE l page count)) := by
  cases hb : mayB page count with
  | false =>
    have e1 : unE l page count = 2 := by unfold unE; rw [if_pos hb]
    have e3 : unR l page count = l := by unfold unR; rw [if_pos hb]
    rw [e1, e3]
    clear e1 e3
    have H := hide h
    clear h
    go_enter Tryz.func96, Tryz.ntmps96
    go_wp2_with (first | ((go_at_call 100; refine (may_any _ _ _).mono ?_; rintro e w' ⟨rfl, rfl⟩)) | ((go_at_call 120; refine (rightful_any _ _).mono ?_; rintro e w' ⟨rfl, rfl⟩)))
    go_ret
    exact AOp.none H.out (Chg.refl _ _)
  | true =>
    have hm := mayB_iff.1 hb
    obtain ⟨m1, m2, m3, m4⟩ := hm
    have e1 : unE l page count = setE (withL l page count 0) := by unfold unE; rw [if_neg (by simp [hb])]
    have e3 : unR l page count = setR l (withL l page count 0) := by unfold unR; rw [if_neg (by simp [hb])]
    rw [e1, e3]
    clear e1 e3
    have HW := hide (with_at (g := 0) h hs.fit m1 m2 (by omega : page + count ≤ 1024))
    have HS := hide (fun W A n c (hc : Chg [] w W) (hs : SR W (.slice A n c) (withL l page count 0)) hn => set_at h hc hs hn (Okm ‹Sp l›.fit m1 m2 (by omega)))
    clear h
    go_enter Tryz.func96, Tryz.ntmps96
    go_wp2_with (first | ((go_at_call 100; refine (may_any _ _ _).mono ?_; rintro e w' ⟨rfl, rfl⟩)) | ((go_at_call 120; refine (rightful_any _ _).mono ?_; rintro e w' ⟨rfl, rfl⟩)) | (go_at_call 122; refine HW.out.mono ?_; rintro e w2 ⟨A2, n2, c2, rfl, hs2, hn2, hc2⟩) | (go_at_call 121; refine (HS.out _ _ _ _ hc2 hs2 hn2).mono ?_; rintro e w3 ⟨rfl, hm3, hc3⟩))
    go_ret
    exact ⟨rfl, hm3, hc3⟩
theorem mdE_eq {l : List Rn} {page count : Int} (hb : mayB page count = true) : mdE l page count = if cntL l page count < count then 7 else 0 := by unfold mdE; rw [if_neg (by simp [hb])]
set_option maxHeartbeats 1000000 in
theorem md_at {w : World} {d : Nat} {l : List Rn} {F : List Nat} (h : AMem w d l F) (hs : Sp l) (page count : Int) : Calls Tryz.prog 70 #[.pointer (some ⟨d, 0, none⟩), .int .i64 page, .int .i64 count] w fun e w' => e = .returned (.int .i64 (mdE l page count)) ∧ Chg [] w w' := by
  cases hb : mayB page count with
  | false =>
    have e1 : mdE l page count = 2 := by unfold mdE; rw [if_pos hb]
    rw [e1]
    clear e1 h
    go_enter Tryz.func70, Tryz.ntmps70
    go_wp2_with (first | ((go_at_call 100; refine (may_any _ _ _).mono ?_; rintro e w' ⟨rfl, rfl⟩)) | ((go_at_call 120; refine (rightful_any _ _).mono ?_; rintro e w' ⟨rfl, rfl⟩)))
    go_ret
    exact ⟨rfl, Chg.refl _ _⟩
  | true =>
    have hm := mayB_iff.1 hb
    obtain ⟨m1, m2, m3, m4⟩ := hm
    have HC := hide (count_at h hs.okl (by have := hs.len; omega) page count ⟨m1, by omega⟩ ⟨by omega, m3⟩)
    have hbd := cnt_le hs.nm (page := page) (count := count) (by omega)
    rw [mdE_eq hb]
    by_cases hcnt : cntL l page count < count
    · rw [if_pos hcnt]
      clear h
      generalize cntL l page count = x at HC hcnt hbd
      go_enter Tryz.func70, Tryz.ntmps70
      go_wp2_with (first | ((go_at_call 100; refine (may_any _ _ _).mono ?_; rintro e w' ⟨rfl, rfl⟩)) | ((go_at_call 120; refine (rightful_any _ _).mono ?_; rintro e w' ⟨rfl, rfl⟩)) | (go_at_call 101; refine HC.out.mono ?_; rintro e w1 ⟨rfl, hc1⟩))
      go_ret
      exact ⟨rfl, hc1⟩
    · rw [if_neg hcnt]
      clear h
      generalize cntL l page count = x at HC hcnt hbd
      go_enter Tryz.func70, Tryz.ntmps70
      go_wp2_with (first | ((go_at_call 100; refine (may_any _ _ _).mono ?_; rintro e w' ⟨rfl, rfl⟩)) | ((go_at_call 120; refine (rightful_any _ _).mono ?_; rintro e w' ⟨rfl, rfl⟩)) | (go_at_call 101; refine HC.out.mono ?_; rintro e w1 ⟨rfl, hc1⟩))
      go_ret
      exact ⟨rfl, hc1⟩
set_option maxHeartbeats 1000000 in
theorem pr_at {w : World} {d : Nat} {l : List Rn} {F : List Nat} (h : AMem w d l F) (hs : Sp l) (page count g : Int) : Calls Tryz.prog 97 #[.pointer (some ⟨d, 0, none⟩), .int .i64 page, .int .i64 count, .int .u8 g] w (AOp w d F (prR l page count g) (prE l page count g)) := by
  cases hg : rgB g with
  | false =>
    have e1 : prE l page count g = 2 := by unfold prE; rw [if_pos hg]
    have e3 : prR l page count g = l := by unfold prR; rw [if_pos hg]
    rw [e1, e3]
    clear e1 e3
    have H := hide h
    clear h
    go_enter Tryz.func97, Tryz.ntmps97
    go_wp2_with (first | ((go_at_call 100; refine (may_any _ _ _).mono ?_; rintro e w' ⟨rfl, rfl⟩)) | ((go_at_call 120; refine (rightful_any _ _).mono ?_; rintro e w' ⟨rfl, rfl⟩)))
    go_ret
    exact AOp.none H.out (Chg.refl _ _)
  | true =>
    have HM := hide (md_at h hs page count)
    by_cases hmd : mdE l page count = 0
    · have hb := mdE_may hmd
      have hm := mayB_iff.1 hb
      obtain ⟨m1, m2, m3, m4⟩ := hm
      have e1 : prE l page count g = setE (withL l page count g) := by unfold prE; rw [if_neg (by simp [hg]), if_neg (by simp [hmd])]
      have e3 : prR l page count g = setR l (withL l page count g) := by unfold prR; rw [if_neg (by simp [hg]), if_neg (by simp [hmd])]
      rw [e1, e3]
      rw [hmd] at HM
      clear e1 e3 hmd
      have HW := hide (fun W (hc : Chg [] w W) => with_at (g := g) (h.stay hc) hs.fit m1 m2 (by omega : page + count ≤ 1024))
      have HS := hide (fun W A n c (hc : Chg [] w W) (hs : SR W (.slice A n c) (withL l page count g)) hn => set_at h hc hs hn (Okm ‹Sp l›.fit m1 m2 (by omega)))
      clear h
      go_enter Tryz.func97, Tryz.ntmps97
      go_wp2_with (first | ((go_at_call 120; refine (rightful_any _ _).mono ?_; rintro e w' ⟨rfl, rfl⟩)) | (go_at_call 70; refine HM.out.mono ?_; rintro e w1 ⟨rfl, hc1⟩) | (go_at_call 122; refine (HW.out _ hc1).mono ?_; rintro e w2 ⟨A2, n2, c2, rfl, hs2, hn2, hc2⟩) | (go_at_call 121; refine (HS.out _ _ _ _ (hc1.stay hc2) hs2 (fun k hk => Nat.le_trans hc1.size (hn2 k hk))).mono ?_; rintro e w3 ⟨rfl, hm3, hc3⟩))
      go_ret
      exact ⟨rfl, hm3, hc3⟩
    · have e1 : prE l page count g = mdE l page count := by unfold prE; rw [if_neg (by simp [hg]), if_pos hmd]
      have e3 : prR l page count g = l := by unfold prR; rw [if_neg (by simp [hg]), if_pos hmd]
      rw [e1, e3]
      clear e1 e3
      obtain ⟨x, hx⟩ : ∃ x, mdE l page count = x := ⟨_, rfl⟩
      rw [hx] at HM hmd ⊢
      have hx0 : (x == 0) = false := beq_eq_false_iff_ne.2 hmd
      have H := hide h
      clear h hx hmd
      go_enter Tryz.func97, Tryz.ntmps97
      go_wp2_with (first | ((go_at_call 120; refine (rightful_any _ _).mono ?_; rintro e w' ⟨rfl, rfl⟩)) | (go_at_call 70; refine HM.out.mono ?_; rintro e w1 ⟨rfl, hc1⟩))
      go_ret
      exact AOp.none H.out hc1

/-! ## What reads -/
theorem new_any (w : World) : Calls Tryz.prog 92 #[] w fun e w' => e = .returned (.pointer (some ⟨w.heap.size, 0, none⟩)) ∧ AMem w' w.heap.size [] [w.heap.size] ∧ Chg [] w w' := by
  go_enter Tryz.func92, Tryz.ntmps92
  go_wp2_with fail
  go_ret
  exact ⟨rfl, ⟨.slice none 0 0, Blk.new w 142 _, SE.nil _ _ _ _, fun k hk => by simpa [own, Value.ownBlock] using hk, fun k hk => by obtain rfl := List.mem_singleton.1 hk; simp⟩, (Chg.refl _ _).alloc _⟩
end Go.Proofs.YtfoleblcaloeoaaGreatDoor.Ar

namespace Go.Proofs.YtfoleblcaloeoaaGreatDoor.Ar
open Go Go.RowKit

def hasB (l : List Rn) (q : Int) : Bool := decide (rt l q ≠ 0)
set_option maxHeartbeats 1000000 in
theorem rights_at {w : World} {d : Nat} {l : List Rn} {F : List Nat} (h : AMem w d l F) (hs : Sp l) (q : Int) : Calls Tryz.prog 48 #[.pointer (some ⟨d, 0, none⟩), .int .i64 q] w fun e w' => e = .returned (.tuple #[.int .u8 (rt l q), .bool (hasB l q)]) ∧ Chg [] w w' := by
  obtain ⟨v, hb, hs0, hF, hlt⟩ := h
  obtain ⟨A, c0, rfl⟩ := hs0.form
  have b0 := hb.cell 0
  simp at b0
  have hll := hs.len
  have Hs := hide hs0
  have Hl := hide hs
  clear hs0 hs hb hF hlt
  obtain ⟨x, hx⟩ : ∃ x, rt l q = x := ⟨_, rfl⟩
  obtain ⟨y, hy⟩ : ∃ y, hasB l q = y := ⟨_, rfl⟩
  rw [hx, hy]
  have Hx := hide hx
  have Hy := hide hy
  clear hx hy
  go_enter Tryz.func48, Tryz.ntmps48
  go_wp2_with fail
  go_loopw [15] (fun i wr => ∃ k : Nat, k ≤ l.length ∧ i = .int .i64 k ∧ Hid (rt l q = rt (l.drop k) q) ∧ Chg [] w wr) (fun i _ => l.length - (intOf i).toNat)
  case atStart => exact ⟨0, by omega, rfl, hide (by simp), Chg.refl _ _⟩
  case round =>
    obtain ⟨k, hk, rfl, hrt, hch⟩ := hrel
    by_cases hkt : k < l.length
    · have hsr := Hs.out.stay hch
      obtain ⟨g0, off, rfl⟩ := SE.addr hsr (by omega)
      obtain ⟨q0, q1, q2⟩ := RR.cells hsr.re hkt
      have hgl : g0 < wr.heap.size := hsr.own_lt g0 (by simp [own, Value.ownBlock])
      have hok := Hl.out.mem (List.getElem_mem hkt)
      have hdr : rt (l.drop k) q = if l[k].p ≤ q ∧ q < l[k].e then l[k].g else rt (l.drop (k + 1)) q := by rw [List.drop_eq_getElem_cons hkt]; rfl
      obtain ⟨r, hr⟩ : ∃ r, r = l[k] := ⟨_, rfl⟩
      rw [← hr] at q0 q1 q2 hok hdr
      obtain ⟨a1, a2, a3, a4, a5⟩ := hok
      clear hr hsr
      obtain ⟨p, c, g⟩ := r
      simp only at q0 q1 q2 a1 a2 a3 a4 a5 hdr
      have Hdr := hide hdr
      have hbx : Blk (wr.alloc (.cells #[.int .i64 p, .int .i64 c, .int .u8 g] 144)) wr.heap.size 144 #[.int .i64 p, .int .i64 c, .int .u8 g] := Blk.new wr 144 _
      clear hdr
      by_cases h1 : p ≤ q
      · by_cases h2 : q < p + c
        · have ex : g = x := by rw [← Hx.out, hrt.out, Hdr.out, if_pos ⟨h1, h2⟩]
          have ey : true = y := by rw [← Hy.out]; unfold hasB; rw [Hx.out, ← ex]; simp; omega
          subst ex; subst ey
          go_wp2_with (go_at_call 82; refine (end_any p c g _ ⟨by omega, by omega⟩ ⟨by omega, by omega⟩).mono ?_; rintro e W1 ⟨rfl, hc1⟩; have hb1 := box3 (hbx.chg hc1 List.not_mem_nil); obtain ⟨e0, e1, e2, e3⟩ := hb1)
          go_ret2
          exact ⟨rfl, (hch.alloc _).stay hc1⟩
        · go_wp2_with (go_at_call 82; refine (end_any p c g _ ⟨by omega, by omega⟩ ⟨by omega, by omega⟩).mono ?_; rintro e W1 ⟨rfl, hc1⟩)
          go_roundw
          case rel => exact ⟨k + 1, by omega, by go_num, hide (by rw [hrt.out, Hdr.out, if_neg (by have e : (⟨p, c, g⟩ : Rn).e = p + c := rfl; omega)]), (hch.alloc _).stay hc1⟩
          case measure => simp [intOf]; omega
      · go_wp2_with fail
        go_roundw
        case rel => exact ⟨k + 1, by omega, by go_num, hide (by rw [hrt.out, Hdr.out, if_neg (by omega)]), hch.alloc _⟩
        case measure => simp [intOf]; omega
    · have ek : l.drop k = [] := List.drop_eq_nil_of_le (by omega)
      have ex : (0 : Int) = x := by rw [← Hx.out, hrt.out, ek]; rfl
      have ey : false = y := by rw [← Hy.out]; unfold hasB; rw [Hx.out, ← ex]; simp
      subst ex; subst ey
      clear ek
      go_wp2_with fail
      go_ret2
      exact ⟨rfl, hch⟩
theorem rights_nil (w : World) (q : Int) : Calls Tryz.prog 48 #[.pointer none, .int .i64 q] w fun e w' => e = .returned (.tuple #[.int .u8 0, .bool false]) ∧ w = w' := by
  go_enter Tryz.func48, Tryz.ntmps48
  go_wp2_with fail
  go_ret2
  exact ⟨rfl, rfl⟩
theorem clone_any {w : World} {v : Value} {l : List Rn} (hl : RR w v l) (hlen : l.length ≤ 1000000) : Calls Tryz.prog 109 #[v] w fun e w' => ∃ A n c, e = .returned (.slice A n c) ∧ SR w' (.slice A n c) l ∧ (∀ k ∈ own (.slice A n c), w.heap.size ≤ k) ∧ Chg [] w w' := by
  obtain ⟨A, c, rfl⟩ := hl.form
  cases A with
  | none =>
    have hl0 : l = [] := by
      cases l with
      | nil => rfl
      | cons a l =>
        obtain ⟨g, off, e⟩ := RE.addr hl (by simp)
        cases e
    subst hl0
    have hne : ∀ W : World, (binOp .eql 140 (.slice none ([] : List Rn).length c) (.slice none 0 0)).run Tryz.prog W = .ok (.bool true) W := fun W => Lib.run_eql_slice_nil W 140 144 _ _ _ 0 0 Tryz.underlying140
    clear hl
    simp only [List.length_nil] at hne ⊢
    go_enter Tryz.func109, Tryz.ntmps109
    go_wp2_with fail
    go_ret
    exact ⟨none, 0, 0, rfl, SE.nil _ _ _ _, fun k hk => (own_nil hk).elim, Chg.refl _ _⟩
  | some a0 =>
    have hne : ∀ W : World, (binOp .eql 140 (.slice (some a0) l.length c) (.slice none 0 0)).run Tryz.prog W = .ok (.bool false) W := fun W => Lib.run_eql_slice_nil W 140 144 _ _ _ 0 0 Tryz.underlying140
    have Hl := hide hl
    clear hl
    go_enter Tryz.func109, Tryz.ntmps109
    go_wp2_with (at_builtin; refine wpList_append_rn rfl _ _ rfl (.slice (some ⟨w.heap.size, 0, none⟩) 0 0) _ rfl rfl (l := []) (m := l) (Sl_nil_new w 144 3) (Hl.out.stay ((Chg.refl _ _).alloc _)) (by simpa using hlen) ?_; intro A9 n9 c9 W9 hn9 hs9 hc9 hg9)
    go_ret
    exact ⟨_, _, _, rfl, hs9, fun k hk => (hg9 k hk).elim (fun h => by simp [own, Value.ownBlock] at h; omega) (fun h => by simp at h; omega), ((Chg.refl [] w).alloc _).trans hc9 (fun k hk => .inr (by simp [own, Value.ownBlock] at hk; omega))⟩
theorem copy_nil (w : World) : Calls Tryz.prog 79 #[.pointer none] w fun e w' => e = .returned (.pointer none) ∧ w = w' := by
  go_enter Tryz.func79, Tryz.ntmps79
  go_wp2_with fail
  go_ret
  exact ⟨rfl, rfl⟩
theorem copy_at {w : World} {d : Nat} {l : List Rn} {F : List Nat} (h : AMem w d l F) (hlen : l.length ≤ 1000) : Calls Tryz.prog 79 #[.pointer (some ⟨d, 0, none⟩)] w fun e w' => ∃ d' F', e = .returned (.pointer (some ⟨d', 0, none⟩)) ∧ AMem w' d' l F' ∧ (∀ k ∈ F', w.heap.size ≤ k) ∧ Chg [] w w' := by
  obtain ⟨v, hb, hs, hF, hlt⟩ := h
  obtain ⟨A, c0, rfl⟩ := hs.form
  have b0 := hb.cell 0
  simp at b0
  have HC := hide (clone_any hs.re (by omega))
  clear hs hb hF hlt
  go_enter Tryz.func79, Tryz.ntmps79
  go_wp2_with (go_at_call 109; refine HC.out.mono ?_; rintro e W1 ⟨A1, n1, c1, rfl, hs1, hn1, hc1⟩)
  go_ret
  refine ⟨_, W1.heap.size :: own (.slice A1 n1 c1), rfl, ⟨_, Blk.new W1 142 _, hs1.stay ((Chg.refl _ _).alloc _), fun k hk => hk, fun k hk => ?_⟩, fun k hk => ?_, hc1.alloc _⟩
  · rcases List.mem_cons.1 hk with rfl | hk
    · simp
    · have := hs1.own_lt k hk; simp; omega
  · rcases List.mem_cons.1 hk with rfl | hk
    · exact hc1.size
    · exact hn1 k hk
end Go.Proofs.YtfoleblcaloeoaaGreatDoor.Ar

/- Maps keyed by integers, as functions. -/
namespace Go.Proofs.YtfoleblcaloeoaaGreatDoor
open Go Go.RowKit

def isKey (k : IntKind) (z : Int) : Value → Bool
  | .int k' z' => k' == k && z' == z
  | _ => false
theorem isKey_iff {k : IntKind} {z : Int} {v : Value} : isKey k z v = true ↔ v = .int k z := by
  cases v <;> simp [isKey]
def mlook (k : IntKind) (z : Int) : List MapEntry → Nat → Option (Nat × Value)
  | [], _ => none
  | e :: es, i => if isKey k z e.key then some (i, e.val) else mlook k z es (i + 1)
theorem mlook_cons (k : IntKind) (z : Int) (e : MapEntry) (es : List MapEntry) (i : Nat) : mlook k z (e :: es) i = if isKey k z e.key then some (i, e.val) else mlook k z es (i + 1) := rfl
def KeysI (k : IntKind) (l : List MapEntry) : Prop := ∀ e ∈ l, ∃ z, e.key = .int k z
theorem findNow_int {q k : IntKind} {z : Int} : ∀ (l : List MapEntry) (i : Nat), KeysI k l → Instr.findNow (.int q) (.int k z) l i = some (mlook k z l i)
  | [], _, _ => rfl
  | e :: es, i, h => by
    obtain ⟨y, hy⟩ := h e (List.mem_cons_self ..)
    have ih := findNow_int (q := q) (z := z) es (i + 1) (fun e he => h e (List.mem_cons_of_mem _ he))
    unfold Instr.findNow mlook
    rw [hy]
    have e1 : Instr.sameNow (.int q) (.int k z) (.int k y) = some (z == y) := by simp [Instr.sameNow]
    rw [e1]
    by_cases hz : z = y
    · subst hz
      simp [isKey]
    · have h1 : (z == y) = false := beq_false_of_ne hz
      have h2 : isKey k z (.int k y) = false := by simp [isKey, Ne.symm hz]
      rw [h1, h2]
      simpa using ih
theorem mlook_none {k : IntKind} {z : Int} : ∀ (l : List MapEntry) (i : Nat), mlook k z l i = none ↔ ∀ e ∈ l, e.key ≠ .int k z
  | [], _ => by simp [mlook]
  | e :: es, i => by
    unfold mlook
    have ih := mlook_none (k := k) (z := z) es (i + 1)
    by_cases h : isKey k z e.key = true
    · rw [if_pos h]
      simp [isKey_iff.1 h]
    · rw [if_neg h, ih]
      have : e.key ≠ .int k z := fun e2 => h (isKey_iff.2 e2)
      simp [this]
theorem mlook_some {k : IntKind} {z : Int} {v : Value} {n : Nat} : ∀ (l : List MapEntry) (j : Nat), mlook k z l j = some (n, v) → ∃ i, n = j + i ∧ ∃ h : i < l.length, l[i].key = .int k z ∧ l[i].val = v
  | [], _, h => by simp [mlook] at h
  | e :: es, j, h => by
    unfold mlook at h
    by_cases hk : isKey k z e.key = true
    · rw [if_pos hk] at h
      obtain ⟨rfl, rfl⟩ := Prod.mk.inj (Option.some.inj h)
      exact ⟨0, rfl, by simp, isKey_iff.1 hk, rfl⟩
    · rw [if_neg hk] at h
      obtain ⟨i, h1, h2, h3⟩ := mlook_some es (j + 1) h
      exact ⟨i + 1, by omega, by simpa using h2, by simpa using h3⟩
theorem mlook_set {k : IntKind} {z : Int} {v val : Value} {n : Nat} (z' : Int) : ∀ (l : List MapEntry) (j i : Nat), mlook k z l j = some (n, v) → n = j + i →
    (mlook k z' (l.modify i fun e => { e with key := .int k z, val := val }) j).map (·.2) = if z' = z then some val else (mlook k z' l j).map (·.2)
  | [], _, _, h, _ => by simp [mlook] at h
  | e :: es, j, i, h, hn => by
    unfold mlook at h
    by_cases hk : isKey k z e.key = true
    · rw [if_pos hk] at h
      obtain ⟨rfl, rfl⟩ := Prod.mk.inj (Option.some.inj h)
      obtain rfl : i = 0 := by omega
      rw [List.modify_zero_cons, mlook_cons, mlook_cons]
      by_cases hz : z' = z
      · subst hz
        simp [isKey]
      · have h2 : isKey k z' (.int k z) = false := by simp [isKey, Ne.symm hz]
        rw [isKey_iff.1 hk, h2, if_neg hz]
        rfl
    · rw [if_neg hk] at h
      obtain ⟨i', h1, h2, h3⟩ := mlook_some es (j + 1) h
      obtain ⟨m, rfl⟩ : ∃ m, i = m + 1 := ⟨i - 1, by omega⟩
      have ih := mlook_set (val := val) z' es (j + 1) m h (by omega)
      rw [List.modify_succ_cons, mlook_cons, mlook_cons]
      by_cases hz : isKey k z' e.key = true
      · have : z' ≠ z := fun e2 => hk (e2 ▸ hz)
        rw [if_pos hz, if_neg this, if_pos hz]
      · rw [if_neg hz, if_neg hz]
        exact ih
theorem mlook_push {k : IntKind} {z : Int} {val : Value} {c : Nat} (z' : Int) : ∀ (l : List MapEntry) (j : Nat), mlook k z l j = none →
    (mlook k z' (l ++ [⟨.int k z, val, c⟩]) j).map (·.2) = if z' = z then some val else (mlook k z' l j).map (·.2)
  | [], j, _ => by
    by_cases hz : z' = z
    · subst hz; simp [mlook, isKey]
    · simp [mlook, isKey, hz, Ne.symm hz]
  | e :: es, j, h => by
    unfold mlook at h
    by_cases hk : isKey k z e.key = true
    · rw [if_pos hk] at h; cases h
    · rw [if_neg hk] at h
      have ih := mlook_push (val := val) (c := c) z' es (j + 1) h
      rw [List.cons_append, mlook_cons, mlook_cons]
      by_cases hz : isKey k z' e.key = true
      · have : z' ≠ z := fun e2 => hk (e2 ▸ hz)
        rw [if_pos hz, if_neg this, if_pos hz]
      · rw [if_neg hz, if_neg hz]
        exact ih
def Dist (l : List MapEntry) : Prop := l.Pairwise fun a b => a.key ≠ b.key
theorem mlook_del {k : IntKind} {z : Int} {v : Value} {n : Nat} (z' : Int) : ∀ (l : List MapEntry) (j i : Nat), Dist l → mlook k z l j = some (n, v) → n = j + i →
    ∀ j', (mlook k z' (l.eraseIdx i) j').map (·.2) = if z' = z then none else (mlook k z' l j).map (·.2)
  | [], _, _, _, h, _ => by simp [mlook] at h
  | e :: es, j, i, hd, h, hn => by
    intro j'
    have hidx : ∀ (m : List MapEntry) (a b : Nat), (mlook k z' m a).map (·.2) = (mlook k z' m b).map (·.2) := by
      intro m
      induction m with
      | nil => intro a b; rfl
      | cons x m ih => intro a b; unfold mlook; split <;> first | rfl | exact ih _ _
    rw [Dist, List.pairwise_cons] at hd
    unfold mlook at h
    by_cases hk : isKey k z e.key = true
    · rw [if_pos hk] at h
      obtain ⟨rfl, rfl⟩ := Prod.mk.inj (Option.some.inj h)
      obtain rfl : i = 0 := by omega
      rw [List.eraseIdx_zero, List.tail_cons]
      by_cases hz : z' = z
      · subst hz
        rw [if_pos rfl, (mlook_none es j').2 (fun x hx e2 => hd.1 x hx ((isKey_iff.1 hk).trans e2.symm))]
        rfl
      · have h2 : isKey k z' e.key = false := by rw [isKey_iff.1 hk]; simp [isKey, Ne.symm hz]
        rw [if_neg hz, mlook_cons, h2]
        exact hidx _ _ _
    · rw [if_neg hk] at h
      obtain ⟨i', h1, h2, h3⟩ := mlook_some es (j + 1) h
      obtain ⟨m, rfl⟩ : ∃ m, i = m + 1 := ⟨i - 1, by omega⟩
      have ih := mlook_del z' es (j + 1) m hd.2 h (by omega) (j' + 1)
      rw [List.eraseIdx_cons_succ, mlook_cons, mlook_cons]
      by_cases hz : isKey k z' e.key = true
      · have : z' ≠ z := fun e2 => hk (e2 ▸ hz)
        rw [if_pos hz, if_neg this, if_pos hz]
        rfl
      · rw [if_neg hz, if_neg hz]
        exact ih
/-- the entries' stamps -/
def Born (l : List MapEntry) (clock : Nat) : Prop := l.Pairwise (fun a b => a.born ≠ b.born) ∧ ∀ e ∈ l, e.born < clock
theorem Born.push {l : List MapEntry} {c : Nat} (h : Born l c) (key val : Value) : Born (l ++ [⟨key, val, c⟩]) (c + 1) := by
  refine ⟨List.pairwise_append.2 ⟨h.1, List.pairwise_singleton _ _, fun x hx y hy => ?_⟩, fun x hx => ?_⟩
  · obtain rfl := List.mem_singleton.1 hy
    have := h.2 x hx
    show x.born ≠ c
    omega
  · rcases List.mem_append.1 hx with hx | hx
    · have := h.2 x hx; omega
    · obtain rfl := List.mem_singleton.1 hx
      exact Nat.lt_succ_self _
theorem Born.erase {l : List MapEntry} {c : Nat} (h : Born l c) (i : Nat) : Born (l.eraseIdx i) c :=
  ⟨h.1.sublist (List.eraseIdx_sublist _ _), fun x hx => h.2 x ((List.eraseIdx_sublist _ _).subset hx)⟩
theorem Born.modify {l : List MapEntry} {c : Nat} (h : Born l c) (i : Nat) (g : MapEntry → MapEntry) (hg : ∀ e, (g e).born = e.born) : Born (l.modify i g) c := by
  have kb : ∀ (j : Nat) (hj : j < (l.modify i g).length), (l.modify i g)[j].born = (l[j]'(by simpa using hj)).born := by
    intro j hj
    rw [List.getElem_modify]
    split
    · rw [hg]
    · rfl
  refine ⟨?_, fun x hx => ?_⟩
  · have h1 := h.1
    rw [List.pairwise_iff_getElem] at h1 ⊢
    intro a b ha hb hab
    rw [kb, kb]
    exact h1 a b _ _ hab
  · obtain ⟨j, hj, rfl⟩ := List.getElem_of_mem hx
    rw [kb]
    exact h.2 _ (List.getElem_mem _)
/-- the block of a map that reads as a function -/
def MapB (w : World) (b : Nat) (k : IntKind) (f : Int → Option Value) : Prop :=
  ∃ es clock, w.heap[b]? = some (.map es clock) ∧ KeysI k es.toList ∧ Dist es.toList ∧ Born es.toList clock ∧ ∀ z, (mlook k z es.toList 0).map (·.2) = f z
theorem MapB.lt {w : World} {b : Nat} {k : IntKind} {f : Int → Option Value} (h : MapB w b k f) : b < w.heap.size := by
  obtain ⟨_, _, h, _⟩ := h
  exact (Array.getElem?_eq_some_iff.1 h).1
theorem MapB.chg {w w' : World} {F : List Nat} {b : Nat} {k : IntKind} {f : Int → Option Value} (h : MapB w b k f) (hc : Chg F w w') (hb : b ∉ F) : MapB w' b k f := by
  have hl := h.lt
  obtain ⟨es, c, h1, h2⟩ := h
  exact ⟨es, c, (hc.block b hl hb).trans h1, h2⟩
theorem MapB.stay {w w' : World} {b : Nat} {k : IntKind} {f : Int → Option Value} (h : MapB w b k f) (hc : Chg [] w w') : MapB w' b k f := h.chg hc List.not_mem_nil
theorem MapB.new (w : World) (k : IntKind) : MapB (w.alloc (.map #[] 0)) w.heap.size k (fun _ => none) :=
  ⟨#[], 0, heap_alloc_new w _, (fun _ h => by cases h), List.Pairwise.nil, ⟨List.Pairwise.nil, fun _ h => by cases h⟩, fun _ => rfl⟩
section
variable {P : Program} {w : World} {t kt e : TypeId} {q k : IntKind} {b : Nat} {f : Int → Option Value}
theorem run_check_int (hk : P.underlying kt = some (.int q)) (c : Bool) (z : Int) (w : World) : (Instr.checkKey c 10000 kt (.int k z)).run P w = .ok () w := by
  unfold Instr.checkKey
  simp [run_underlying hk, Result.andThen]
theorem run_find_int (hk : P.underlying kt = some (.int q)) {l : List MapEntry} (hl : KeysI k l) (z : Int) (w : World) : (Instr.findKey kt (.int k z) l).run P w = .ok (mlook k z l 0) w := by
  unfold Instr.findKey
  simp [run_underlying hk, findNow_int l 0 hl, Result.andThen]
theorem run_look_some (ht : P.underlying t = some (.map kt e)) (hk : P.underlying kt = some (.int q)) (h : MapB w b k f) {z : Int} {v : Value} (hv : f z = some v) (c : Bool) :
    (Instr.lookup t (.map (some b)) (.int k z) c).run P w = .ok (if c then .tuple #[v, .bool true] else v) w := by
  obtain ⟨es, cl, h1, h2, h3, hb, h4⟩ := h
  have h5 := h4 z
  rw [hv] at h5
  cases h6 : mlook k z es.toList 0 with
  | none => rw [h6] at h5; cases h5
  | some p =>
    rw [h6] at h5
    obtain ⟨i, v'⟩ := p
    obtain rfl := Option.some.inj h5
    cases c <;> simp [Instr.lookup, run_underlying ht, MapKept.run_getObj_map h1, run_check_int hk, run_find_int hk h2, h6, Result.andThen]
theorem run_look_none (ht : P.underlying t = some (.map kt e)) (hk : P.underlying kt = some (.int q)) (h : MapB w b k f) {z : Int} (hv : f z = none) {y : Value} (hz : (zeroValue e).run P w = .ok y w) (c : Bool) :
    (Instr.lookup t (.map (some b)) (.int k z) c).run P w = .ok (if c then .tuple #[y, .bool false] else y) w := by
  obtain ⟨es, cl, h1, h2, h3, hb, h4⟩ := h
  have h5 := h4 z
  rw [hv] at h5
  have h6 : mlook k z es.toList 0 = none := by
    cases h6 : mlook k z es.toList 0 with
    | none => rfl
    | some p => rw [h6] at h5; cases h5
  cases c <;> simp [Instr.lookup, run_underlying ht, MapKept.run_getObj_map h1, run_check_int hk, run_find_int hk h2, h6, hz, Result.andThen]
theorem setBlock_heap (w : World) {b : Nat} (o : Obj) (hb : b < w.heap.size) : (ChangeMaps.setBlock w b o).heap[b]? = some o := by
  simp [ChangeMaps.setBlock, hb]
theorem setBlock_chg (w : World) (b : Nat) (o : Obj) : Chg [b] w (ChangeMaps.setBlock w b o) :=
  ⟨rfl, rfl, rfl, by simp [ChangeMaps.setBlock], fun k hk hb => by
    have : b ≠ k := fun e => hb (by rw [e]; exact List.mem_cons_self ..)
    simp [ChangeMaps.setBlock, this]⟩
theorem run_update_int (ht : P.underlying t = some (.map kt e)) (hk : P.underlying kt = some (.int q)) (h : MapB w b k f) (z : Int) (val : Value) :
    ∃ w', (Instr.mapUpdate t (.map (some b)) (.int k z) val).run P w = .ok () w' ∧ MapB w' b k (fun y => if y = z then some val else f y) ∧ Chg [b] w w' := by
  have hlt := h.lt
  obtain ⟨es, cl, h1, h2, h3, hb, h4⟩ := h
  cases h6 : mlook k z es.toList 0 with
  | none =>
    refine ⟨ChangeMaps.setBlock w b (.map (es.push ⟨.int k z, val, cl⟩) (cl + 1)), by simp [Instr.mapUpdate, run_underlying ht, MapKept.run_getObj_map h1, run_check_int hk, run_find_int hk h2, h6, MapKept.run_setObj_map _ h1, Result.andThen, ChangeMaps.setBlock], ⟨_, _, setBlock_heap w _ hlt, ?_, ?_, (by rw [Array.toList_push]; exact hb.push _ _), ?_⟩, setBlock_chg _ _ _⟩
    · intro x hx
      rw [Array.toList_push] at hx
      rcases List.mem_append.1 hx with hx | hx
      · exact h2 x hx
      · obtain rfl := List.mem_singleton.1 hx
        exact ⟨z, rfl⟩
    · rw [Array.toList_push]
      refine List.pairwise_append.2 ⟨h3, List.pairwise_singleton _ _, fun x hx y hy => ?_⟩
      obtain rfl := List.mem_singleton.1 hy
      exact (mlook_none _ _).1 h6 x hx
    · intro y
      rw [Array.toList_push, mlook_push y _ _ h6, h4]
  | some p =>
    obtain ⟨i, v⟩ := p
    obtain ⟨i', e1, h7, h8, h9⟩ := mlook_some _ _ h6
    obtain rfl : i = i' := by omega
    have h7' : i < es.size := by simpa using h7
    have h8' : es[i].key = .int k z := by simpa using h8
    have hst : ∀ W, (Instr.keyThatStays (.int k z) (.int k z)).run P W = .ok (.int k z) W := fun W => by simp [Instr.keyThatStays, Instr.sameBits]
    refine ⟨ChangeMaps.setBlock w b (.map (es.modify i fun e => { e with key := .int k z, val := val }) cl), by simp [Instr.mapUpdate, run_underlying ht, MapKept.run_getObj_map h1, run_check_int hk, run_find_int hk h2, h6, h7', h8', hst, MapKept.run_setObj_map _ h1, Result.andThen, ChangeMaps.setBlock], ⟨_, _, setBlock_heap w _ hlt, ?_, ?_, (by rw [Array.toList_modify]; exact hb.modify _ _ (fun _ => rfl)), ?_⟩, setBlock_chg _ _ _⟩
    · intro x hx
      rw [Array.toList_modify] at hx
      obtain ⟨j, hj, rfl⟩ := List.getElem_of_mem hx
      rw [List.getElem_modify]
      split
      · exact ⟨z, rfl⟩
      · exact h2 _ (List.getElem_mem _)
    · rw [Array.toList_modify]
      unfold Dist at h3 ⊢
      rw [List.pairwise_iff_getElem] at h3 ⊢
      intro a c ha hc hac
      have ka : ∀ (j : Nat) (hj : j < (es.toList.modify i fun e => { e with key := .int k z, val := val }).length), (es.toList.modify i fun e => { e with key := .int k z, val := val })[j].key = (es.toList[j]'(by simpa using hj)).key := by
        intro j hj
        rw [List.getElem_modify]
        split
        · rename_i he
          subst he
          exact h8.symm
        · rfl
      rw [ka, ka]
      exact h3 a c _ _ hac
    · intro y
      rw [Array.toList_modify, mlook_set y _ _ _ h6 (by omega), h4]
theorem run_delete_int {ty : TypeId} (ht : P.underlying t = some (.map kt e)) (hk : P.underlying kt = some (.int q)) (h : MapB w b k f) (z : Int) :
    ∃ w', (Builtin.delete_ #[t, kt] ty #[.map (some b), .int k z]).run P w = .ok (.tuple #[]) w' ∧ MapB w' b k (fun y => if y = z then none else f y) ∧ Chg [b] w w' := by
  have hlt := h.lt
  obtain ⟨es, cl, h1, h2, h3, hb, h4⟩ := h
  cases h6 : mlook k z es.toList 0 with
  | none =>
    refine ⟨ChangeMaps.setBlock w b (.map es cl), by simp [Builtin.delete_, run_underlying ht, MapKept.run_getObj_map h1, run_check_int hk, run_find_int hk h2, h6, MapKept.run_setObj_map _ h1, Result.andThen, ChangeMaps.setBlock], ⟨_, _, setBlock_heap w _ hlt, h2, h3, hb, ?_⟩, setBlock_chg _ _ _⟩
    intro y
    show _ = if y = z then none else f y
    by_cases hy : y = z
    · subst hy
      rw [if_pos rfl, h6]
      rfl
    · rw [if_neg hy, h4]
  | some p =>
    obtain ⟨i, v⟩ := p
    obtain ⟨i', e1, h7, h8, h9⟩ := mlook_some _ _ h6
    obtain rfl : i = i' := by omega
    have h7' : i < es.size := by simpa using h7
    have hsub : (es.eraseIdxIfInBounds i).toList = es.toList.eraseIdx i := by
      unfold Array.eraseIdxIfInBounds
      rw [dif_pos h7']
      simp
    refine ⟨ChangeMaps.setBlock w b (.map (es.eraseIdxIfInBounds i) cl), by simp [Builtin.delete_, run_underlying ht, MapKept.run_getObj_map h1, run_check_int hk, run_find_int hk h2, h6, MapKept.run_setObj_map _ h1, Result.andThen, ChangeMaps.setBlock], ⟨_, _, setBlock_heap w _ hlt, ?_, ?_, (by rw [hsub]; exact hb.erase _), ?_⟩, setBlock_chg _ _ _⟩
    · intro x hx
      rw [hsub] at hx
      exact h2 x ((List.eraseIdx_sublist _ _).subset hx)
    · rw [hsub]
      exact h3.sublist (List.eraseIdx_sublist _ _)
    · intro y
      rw [hsub, mlook_del y _ _ _ h3 h6 (by omega), h4]
/-- a map one of whose entries is to be stored into -/
def MapS (w : World) (b : Nat) (k : IntKind) (f : Int → Option Value) (z : Int) (s : Nat) : Prop :=
  ∃ es clock, w.heap[b]? = some (.map es clock) ∧ KeysI k es.toList ∧ Dist es.toList ∧ Born es.toList clock ∧ (∀ y, y ≠ z → (mlook k y es.toList 0).map (·.2) = f y) ∧ ∃ i v, mlook k z es.toList 0 = some (i, v) ∧ ∃ h : i < es.toList.length, es.toList[i].born = s
theorem MapS.lt {w : World} {b : Nat} {k : IntKind} {f : Int → Option Value} {z : Int} {s : Nat} (h : MapS w b k f z s) : b < w.heap.size := by
  obtain ⟨_, _, h, _⟩ := h
  exact (Array.getElem?_eq_some_iff.1 h).1
theorem MapS.chg {w w' : World} {F : List Nat} {b : Nat} {k : IntKind} {f : Int → Option Value} {z : Int} {s : Nat} (h : MapS w b k f z s) (hc : Chg F w w') (hb : b ∉ F) : MapS w' b k f z s := by
  have hl := h.lt
  obtain ⟨es, c, h1, h2⟩ := h
  exact ⟨es, c, (hc.block b hl hb).trans h1, h2⟩
theorem run_entry_int (ht : P.underlying t = some (.map kt e)) (hk : P.underlying kt = some (.int q)) (h : MapB w b k f) (z : Int) {y : Value} (hz : ∀ W, (zeroValue e).run P W = .ok y W) :
    ∃ w' v s, (Instr.mapEntry t (.map (some b)) (.int k z)).run P w = .ok (.tuple #[v, goInt (s : Nat)]) w' ∧ MapS w' b k f z s ∧ Chg [b] w w' := by
  have hlt := h.lt
  obtain ⟨es, cl, h1, h2, h3, hb, h4⟩ := h
  cases h6 : mlook k z es.toList 0 with
  | none =>
    refine ⟨ChangeMaps.setBlock w b (.map (es.push ⟨.int k z, y, cl⟩) (cl + 1)), y, cl, by simp [Instr.mapEntry, run_underlying ht, MapKept.run_getObj_map h1, run_check_int hk, run_find_int hk h2, h6, hz, MapKept.run_setObj_map _ h1, Result.andThen, ChangeMaps.setBlock], ⟨_, _, setBlock_heap w _ hlt, ?_, ?_, (by rw [Array.toList_push]; exact hb.push _ _), ?_, ?_⟩, setBlock_chg _ _ _⟩
    · intro x hx
      rw [Array.toList_push] at hx
      rcases List.mem_append.1 hx with hx | hx
      · exact h2 x hx
      · obtain rfl := List.mem_singleton.1 hx
        exact ⟨z, rfl⟩
    · rw [Array.toList_push]
      refine List.pairwise_append.2 ⟨h3, List.pairwise_singleton _ _, fun x hx y hy => ?_⟩
      obtain rfl := List.mem_singleton.1 hy
      exact (mlook_none _ _).1 h6 x hx
    · intro x hx
      rw [Array.toList_push, mlook_push x _ _ h6, if_neg hx, h4]
    · have h7 := mlook_push (val := y) (c := cl) z es.toList 0 h6
      rw [if_pos rfl] at h7
      rw [Array.toList_push]
      cases h8 : mlook k z (es.toList ++ [⟨.int k z, y, cl⟩]) 0 with
      | none => rw [h8] at h7; cases h7
      | some p =>
        obtain ⟨j, v⟩ := p
        obtain ⟨j', e1, h9, h10, _⟩ := mlook_some _ _ h8
        obtain rfl : j = j' := by omega
        refine ⟨j, v, rfl, h9, ?_⟩
        by_cases hj : j < es.toList.length
        · rw [List.getElem_append_left hj] at h10
          exact absurd h10 ((mlook_none _ _).1 h6 _ (List.getElem_mem hj))
        · have : j = es.toList.length := by simp at h9 hj; simp; omega
          subst this
          rw [List.getElem_append_right (Nat.le_refl _)]
          simp
  | some p =>
    obtain ⟨i, v⟩ := p
    obtain ⟨i', e1, h7, h8, h9⟩ := mlook_some _ _ h6
    obtain rfl : i = i' := by omega
    have h7' : i < es.size := by simpa using h7
    have h8' : es[i].key = .int k z := by simpa using h8
    have hst : ∀ W, (Instr.keyThatStays (.int k z) (.int k z)).run P W = .ok (.int k z) W := fun W => by simp [Instr.keyThatStays, Instr.sameBits]
    have hsame : es.toList.modify i (fun e => { e with key := .int k z }) = es.toList := by
      rw [ChangeMaps.modify_eq_set _ _ _ _ (List.getElem?_eq_getElem h7)]
      have : ({ es.toList[i] with key := .int k z } : MapEntry) = es.toList[i] := by rw [← h8]
      rw [this, List.set_getElem_self]
    refine ⟨ChangeMaps.setBlock w b (.map (es.modify i fun e => { e with key := .int k z }) cl), v, es.toList[i].born, by simp [Instr.mapEntry, run_underlying ht, MapKept.run_getObj_map h1, run_check_int hk, run_find_int hk h2, h6, h7', h8', hst, MapKept.run_setObj_map _ h1, Result.andThen, ChangeMaps.setBlock], ⟨_, _, setBlock_heap w _ hlt, ?_, ?_, ?_, ?_, ?_⟩, setBlock_chg _ _ _⟩
    all_goals rw [Array.toList_modify, hsame]
    · exact h2
    · exact h3
    · exact hb
    · exact fun x _ => h4 x
    · exact ⟨i, v, h6, h7, rfl⟩
theorem run_entryStore_int {s : Nat} {z : Int} (h : MapS w b k f z s) (val : Value) :
    ∃ w', (Instr.entryStore t (.map (some b)) (goInt (s : Nat)) val).run P w = .ok () w' ∧ MapB w' b k (fun y => if y = z then some val else f y) ∧ Chg [b] w w' := by
  have hlt := h.lt
  obtain ⟨es, cl, h1, h2, h3, hb, h4, i, v, h6, hi, hs⟩ := h
  obtain ⟨i', e1, h7, h8, h9⟩ := mlook_some _ _ h6
  obtain rfl : i = i' := by omega
  have hi' : i < es.size := by simpa using hi
  have hfind : es.findIdx? (fun e => (e.born : Int) == (s : Int)) = some i := by
    rw [Array.findIdx?_eq_some_iff_getElem]
    refine ⟨hi', by simp at hs ⊢; omega, fun j hj => ?_⟩
    have h5 := hb.1
    rw [List.pairwise_iff_getElem] at h5
    have h10 := h5 j i (by simp; omega) hi hj
    simp at h10 hs ⊢
    omega
  have hset : es.toList.modify i (fun e => { e with val := val }) = es.toList.modify i (fun e => { e with key := .int k z, val := val }) := by
    rw [ChangeMaps.modify_eq_set _ _ _ _ (List.getElem?_eq_getElem h7), ChangeMaps.modify_eq_set _ _ _ _ (List.getElem?_eq_getElem h7), h8]
  refine ⟨ChangeMaps.setBlock w b (.map (es.modify i fun e => { e with val := val }) cl), by simp [Instr.entryStore, MapKept.run_getObj_map h1, goInt, asInt, asIntOf, hfind, MapKept.run_setObj_map _ h1, Result.andThen, ChangeMaps.setBlock], ⟨_, _, setBlock_heap w _ hlt, ?_, ?_, ?_, ?_⟩, setBlock_chg _ _ _⟩
  · intro x hx
    rw [Array.toList_modify, hset] at hx
    obtain ⟨j, hj, rfl⟩ := List.getElem_of_mem hx
    rw [List.getElem_modify]
    split
    · exact ⟨z, rfl⟩
    · exact h2 _ (List.getElem_mem _)
  · rw [Array.toList_modify]
    unfold Dist at h3 ⊢
    rw [List.pairwise_iff_getElem] at h3 ⊢
    intro a c ha hc hac
    have ka : ∀ (j : Nat) (hj : j < (es.toList.modify i fun e => { e with val := val }).length), (es.toList.modify i fun e => { e with val := val })[j].key = (es.toList[j]'(by simpa using hj)).key := by
      intro j hj
      rw [List.getElem_modify]
      split
      · rfl
      · rfl
    rw [ka, ka]
    exact h3 a c _ _ hac
  · rw [Array.toList_modify]
    exact hb.modify _ _ (fun _ => rfl)
  · intro y
    rw [Array.toList_modify, hset, mlook_set y _ _ _ h6 (by omega)]
    show _ = if y = z then some val else f y
    by_cases hy : y = z
    · rw [if_pos hy, if_pos hy]
    · rw [if_neg hy, if_neg hy, h4 y hy]
end
end Go.Proofs.YtfoleblcaloeoaaGreatDoor

/- The model, plain: processes, objects, handles; what a step may be answered. -/
namespace Go.Proofs.YtfoleblcaloeoaaGreatDoor
open Go Go.RowKit

structure Pr where
  rl : List Ar.Rn
  pg : Int → Option (List Nat)
  ow : Int → Option (Nat × Nat)
  pk : Nat
  pm : Nat
structure Mo where
  c : Cf
  pr : Int → Option Pr
  ob : Int → Option (List Nat)
  ev : Int → Bool
def upd {α : Type} (f : Int → α) (z : Int) (v : α) : Int → α := fun y => if y = z then v else f y
def newPr : Pr := ⟨[], fun _ => none, fun _ => none, 0, 0⟩
def newMo (c : Cf) : Mo := ⟨c, fun _ => none, fun _ => none, fun _ => false⟩
def plainR (e : Int) : Rs := ⟨e, 0, []⟩
def freeK (k : Nat) (e : Int) : Bool :=
  ((k == 6 || k == 8 || k == 9) && (decide (e = 6) || decide (e = 40))) || ((k == 1 || k == 10 || k == 18) && decide (e = 6))
def pids : List Int := [1, 2, 3, 4, 5, 6, 7, 8]
def spawnA (M : Mo) : Rs × Option Mo :=
  match pids.find? fun p => (M.pr p).isNone with
  | some p => (⟨0, p.toNat, []⟩, some { M with pr := upd M.pr p (some newPr) })
  | none => (plainR 9, none)
def mallocA (M : Mo) (s : Int) (v : Nat) : Rs × Option Mo :=
  if v = 0 ∨ M.ev v = true then (⟨0, 18446744073709551615 - v, []⟩, none)
  else (⟨0, v, []⟩, some { M with ob := upd M.ob v (some (List.replicate s.toNat 0)), ev := upd M.ev v true })
def splice (b : List Nat) (a : Nat) (l : List Nat) : List Nat := b.take a ++ l ++ b.drop (a + l.length)
def objA (M : Mo) (x : Cl) : Rs × Option Mo :=
  match M.ob x.h with
  | none => (plainR 120, none)
  | some b =>
    if x.k = 11 then (plainR 0, some { M with ob := upd M.ob x.h none })
    else if (b.length : Int) < x.a + max x.s x.l.length then (plainR 2, none)
    else if x.k = 12 then (⟨0, 0, (b.drop x.a.toNat).take x.s.toNat⟩, none)
    else (plainR 0, some { M with ob := upd M.ob x.h (some (splice b x.a.toNat x.l)) })
def inR (p c q : Int) : Bool := decide (p ≤ q ∧ q < p + c)
/-- mapping, unmapping, other rights -/
def changeA (p : Pr) (x : Cl) : Int × Pr :=
  if x.k = 3 then (Ar.mapE p.rl x.g x.c x.r, { p with rl := Ar.mapR p.rl x.g x.c x.r })
  else if x.k = 4 then (Ar.unE p.rl x.g x.c, { p with rl := Ar.unR p.rl x.g x.c, pg := fun q => if inR x.g x.c q then none else p.pg q, ow := fun q => if inR x.g x.c q then none else p.ow q })
  else (Ar.prE p.rl x.g x.c x.r, { p with rl := Ar.prR p.rl x.g x.c x.r })
def zeroPg : List Nat := List.replicate 256 0
def accessA (p : Pr) (x : Cl) : Rs × Option Pr :=
  let page := x.a / 256
  let at_ := (x.a % 256).toNat
  let b := (p.pg page).getD zeroPg
  if Ar.rt p.rl page = 0 then (plainR 7, none)
  else if x.k = 8 then (if Ar.rt p.rl page % 2 = 0 then (plainR 190, none) else (⟨0, 0, (b.drop at_).take x.s.toNat⟩, none))
  else (if Ar.rt p.rl page < 2 then (plainR 190, none) else (plainR 0, some { p with pg := upd p.pg page (some (splice b at_ x.l)) }))
def polA (p : Pr) (q : Int) : Nat × Nat := (p.ow q).getD (p.pk, p.pm)
def procA (M : Mo) (x : Cl) (v : Nat) (p : Pr) : Rs × Option Mo :=
  if x.k = 2 then (plainR 0, some { M with pr := upd M.pr x.p none })
  else if x.k = 14 then (plainR 0, some { M with pr := upd M.pr x.p (some { p with pk := x.ok, pm := x.om }) })
  else if x.k = 16 then (⟨0, (polA p x.g).1 * 256 + (polA p x.g).2, []⟩, none)
  else if x.k = 3 ∨ x.k = 4 ∨ x.k = 5 then (plainR (changeA p x).1, some { M with pr := upd M.pr x.p (some (changeA p x).2) })
  else if x.k = 8 ∨ x.k = 9 then ((accessA p x).1, (accessA p x).2.map fun q => { M with pr := upd M.pr x.p (some q) })
  else if Ar.mdE p.rl x.g (max x.c 1) ≠ 0 then (plainR 7, none)
  else if x.k = 17 then (⟨0, min v (M.c 0).toNat, []⟩, none)
  else if x.k = 15 then (plainR 0, some { M with pr := upd M.pr x.p (some { p with ow := fun q => if inR x.g x.c q then some (x.ok, x.om) else p.ow q }) })
  else (plainR 0, none)
def answerA (M : Mo) (x : Cl) (v : Nat) : Rs × Option Mo :=
  if x.k = 1 then spawnA M
  else if x.k = 10 then mallocA M x.s v
  else if x.k = 11 ∨ x.k = 12 ∨ x.k = 13 then objA M x
  else if x.k = 19 ∨ x.k = 20 ∨ x.k = 21 then (plainR 0, none)
  else match M.pr x.p with
  | none => (plainR 7, none)
  | some p => procA M x v p
noncomputable def stepB (M : Mo) (x : Cl) (r : Rs) : Bool :=
  if wrongK M.c x = true then sameRs r (plainR 2)
  else if freeK x.k r.e = true then sameRs r (plainR r.e)
  else sameRs r (answerA M x r.v).1
noncomputable def stepM (M : Mo) (x : Cl) (r : Rs) : Mo :=
  if wrongK M.c x = true ∨ freeK x.k r.e = true ∨ sameRs r (answerA M x r.v).1 = false ∨ r.e ≠ 0 then M else ((answerA M x r.v).2).getD M
end Go.Proofs.YtfoleblcaloeoaaGreatDoor

/- The model in memory. -/
namespace Go.Proofs.YtfoleblcaloeoaaGreatDoor
open Go Go.RowKit

/-! ## What may have changed, by a predicate -/
def CP (F : Nat → Prop) (w w' : World) : Prop := ∃ G, Chg G w w' ∧ ∀ k ∈ G, F k ∨ w.heap.size ≤ k
theorem CP.of {F : Nat → Prop} {G : List Nat} {w w' : World} (h : Chg G w w') (hG : ∀ k ∈ G, F k ∨ w.heap.size ≤ k) : CP F w w' := ⟨G, h, hG⟩
theorem CP.of0 {F : Nat → Prop} {w w' : World} (h : Chg [] w w') : CP F w w' := ⟨[], h, fun _ h => by cases h⟩
theorem CP.size {F : Nat → Prop} {w w' : World} (h : CP F w w') : w.heap.size ≤ w'.heap.size := by
  obtain ⟨G, h, _⟩ := h
  exact h.size
theorem CP.trans {F G : Nat → Prop} {a b c : World} (h : CP F a b) (k : CP G b c) (hG : ∀ x, G x → F x ∨ a.heap.size ≤ x) : CP F a c := by
  obtain ⟨L, h1, h2⟩ := h
  obtain ⟨K, k1, k2⟩ := k
  refine ⟨L ++ K, (h1.mono (fun x hx => .inl (List.mem_append_left _ hx))).trans k1 (fun x hx => .inl (List.mem_append_right _ hx)), fun x hx => ?_⟩
  rcases List.mem_append.1 hx with hx | hx
  · exact h2 x hx
  · rcases k2 x hx with h3 | h3
    · exact hG x h3
    · have := h1.size; exact .inr (by omega)
theorem CP.then0 {F : Nat → Prop} {a b c : World} (h : CP F a b) (k : Chg [] b c) : CP F a c := h.trans (CP.of0 (F := F) k) (fun _ h => .inl h)
theorem CP.avoid {F : Nat → Prop} {w w' : World} (h : CP F w w') (L : List Nat) (hL : ∀ k ∈ L, ¬ F k) (hl : ∀ k ∈ L, k < w.heap.size) : ∃ G, Chg G w w' ∧ ∀ k ∈ L, k ∉ G := by
  obtain ⟨G, h1, h2⟩ := h
  exact ⟨G, h1, fun k hk hg => (h2 k hg).elim (hL k hk) (fun h3 => by have := hl k hk; omega)⟩
theorem Blk.cp {F : Nat → Prop} {w w' : World} {g : Nat} {t : TypeId} {cs : Array Value} (h : Blk w g t cs) (hc : CP F w w') (hg : ¬ F g) : Blk w' g t cs := by
  obtain ⟨G, h1, h2⟩ := hc.avoid [g] (by simpa using hg) (by simpa using h.lt)
  exact h.chg h1 (h2 g (List.mem_singleton.2 rfl))
theorem MapB.cp {F : Nat → Prop} {w w' : World} {b : Nat} {k : IntKind} {f : Int → Option Value} (h : MapB w b k f) (hc : CP F w w') (hg : ¬ F b) : MapB w' b k f := by
  obtain ⟨G, h1, h2⟩ := hc.avoid [b] (by simpa using hg) (by simpa using h.lt)
  exact h.chg h1 (h2 b (List.mem_singleton.2 rfl))
theorem SB.cp {F : Nat → Prop} {w w' : World} {v : Value} {l : List Nat} (h : SB w v l) (hc : CP F w w') (hg : ∀ k ∈ own v, ¬ F k) : SB w' v l := by
  obtain ⟨G, h1, h2⟩ := hc.avoid (own v) hg h.own_lt
  exact h.chg h1 h2
theorem Ar.AMem.cp {F : Nat → Prop} {w w' : World} {d : Nat} {l : List Ar.Rn} {L : List Nat} (h : Ar.AMem w d l L) (hc : CP F w w') (hg : ∀ k ∈ L, ¬ F k) : Ar.AMem w' d l L := by
  obtain ⟨G, h1, h2⟩ := hc.avoid L hg h.lt
  exact h.chg h1 h2
/-! ## A page, a process, the machine -/
def pgc (l : List Nat) : Array Value := (l.map fun (x : Nat) => Value.int .u8 (x : Int)).toArray
structure PgB (w : World) (b : Nat) (l : List Nat) : Prop where
  blk : Blk w b 138 (pgc l)
  len : l.length = 256
  b8 : ∀ x ∈ l, x < 256
theorem PgB.cp {F : Nat → Prop} {w w' : World} {b : Nat} {l : List Nat} (h : PgB w b l) (hc : CP F w w') (hg : ¬ F b) : PgB w' b l := ⟨h.blk.cp hc hg, h.len, h.b8⟩
def prc (d bp bo : Nat) (p : Pr) : Array Value := #[.pointer (some ⟨d, 0, none⟩), .map (some bp), .map (some bo), .int .u8 p.pk, .int .u8 p.pm]
structure PIn (w : World) (b : Nat) (p : Pr) (d : Nat) (FA : List Nat) (bp bo : Nat) (fp fo : Int → Option Value) (gp : Int → Nat) : Prop where
  blk : Blk w b 113 (prc d bp bo p)
  ar : Ar.AMem w d p.rl FA
  sp : Ar.Sp p.rl
  mp : MapB w bp .i64 fp
  mo : MapB w bo .i64 fo
  hp : ∀ n, fp n = (p.pg n).map fun _ => .pointer (some ⟨gp n, 0, none⟩)
  ho : ∀ n, fo n = (p.ow n).map fun q => .agg #[.int .u8 q.1, .int .u8 q.2]
  pg : ∀ n B, p.pg n = some B → PgB w (gp n) B
  inj : ∀ n n' B B', p.pg n = some B → p.pg n' = some B' → gp n = gp n' → n = n'
  ne : bp ≠ bo
  pk : p.pk < 256
  pm : p.pm < 256
  ow : ∀ n q, p.ow n = some q → q.1 < 256 ∧ q.2 < 256
def FPr (p : Pr) (b : Nat) (FA : List Nat) (bp bo : Nat) (gp : Int → Nat) (k : Nat) : Prop := k = b ∨ k ∈ FA ∨ k = bp ∨ k = bo ∨ ∃ n B, p.pg n = some B ∧ k = gp n
def PMem (w : World) (b : Nat) (p : Pr) (F : Nat → Prop) : Prop :=
  ∃ d FA bp bo fp fo gp, PIn w b p d FA bp bo fp fo gp ∧ (∀ k, FPr p b FA bp bo gp k → F k) ∧ ∀ k, F k → k < w.heap.size
theorem PIn.cp {G : Nat → Prop} {w w' : World} {b : Nat} {p : Pr} {d : Nat} {FA : List Nat} {bp bo : Nat} {fp fo : Int → Option Value} {gp : Int → Nat} (h : PIn w b p d FA bp bo fp fo gp) (hc : CP G w w') (hg : ∀ k, FPr p b FA bp bo gp k → ¬ G k) : PIn w' b p d FA bp bo fp fo gp :=
  { blk := h.blk.cp hc (hg _ (.inl rfl)), ar := h.ar.cp hc (fun k hk => hg k (.inr (.inl hk))), sp := h.sp, mp := h.mp.cp hc (hg _ (.inr (.inr (.inl rfl)))), mo := h.mo.cp hc (hg _ (.inr (.inr (.inr (.inl rfl))))), hp := h.hp, ho := h.ho, pg := fun n B hB => (h.pg n B hB).cp hc (hg _ (.inr (.inr (.inr (.inr ⟨n, B, hB, rfl⟩))))), inj := h.inj, ne := h.ne, pk := h.pk, pm := h.pm, ow := h.ow }
theorem PMem.cp {F G : Nat → Prop} {w w' : World} {b : Nat} {p : Pr} (h : PMem w b p F) (hc : CP G w w') (hg : ∀ k, F k → ¬ G k) : PMem w' b p F := by
  obtain ⟨d, FA, bp, bo, fp, fo, gp, h1, h2, h3⟩ := h
  exact ⟨d, FA, bp, bo, fp, fo, gp, h1.cp hc (fun k hk => hg k (h2 k hk)), h2, fun k hk => Nat.lt_of_lt_of_le (h3 k hk) hc.size⟩
def mgc (c : Cf) (bp bo be : Nat) : Array Value := cg c ++ #[.map (some bp), .map (some bo), .map (some be)]
structure MIn (w : World) (m : Nat) (M : Mo) (bp bo be : Nat) (fp fo fe : Int → Option Value) (gb : Int → Nat) (GF : Int → Nat → Prop) (ov : Int → Value) : Prop where
  blk : Blk w m 62 (mgc M.c bp bo be)
  mp : MapB w bp .i64 fp
  mo : MapB w bo .u64 fo
  me : MapB w be .u64 fe
  hp : ∀ n, fp n = (M.pr n).map fun _ => .pointer (some ⟨gb n, 0, none⟩)
  pr : ∀ n p, M.pr n = some p → PMem w (gb n) p (GF n)
  ap : ∀ n n' p p', M.pr n = some p → M.pr n' = some p' → n ≠ n' → ∀ k, GF n k → ¬ GF n' k
  rng : ∀ n p, M.pr n = some p → 1 ≤ n ∧ n ≤ 8
  ho : ∀ h, fo h = (M.ob h).map fun _ => ov h
  ob : ∀ h B, M.ob h = some B → SB w (ov h) B ∧ (∀ x ∈ B, x < 256) ∧ B.length ≤ 128
  oa : ∀ h h' B B', M.ob h = some B → M.ob h' = some B' → h ≠ h' → ∀ k ∈ own (ov h), k ∉ own (ov h')
  he : ∀ h, fe h = if M.ev h then some (.bool true) else none
  d1 : bp ≠ bo
  d2 : bp ≠ be
  d3 : bo ≠ be
  dm : ∀ n p, M.pr n = some p → ∀ k, GF n k → k ≠ m ∧ k ≠ bp ∧ k ≠ bo ∧ k ≠ be ∧ ∀ h B, M.ob h = some B → k ∉ own (ov h)
def FMo (M : Mo) (m bp bo be : Nat) (GF : Int → Nat → Prop) (ov : Int → Value) (k : Nat) : Prop :=
  k = m ∨ k = bp ∨ k = bo ∨ k = be ∨ (∃ n p, M.pr n = some p ∧ GF n k) ∨ ∃ h B, M.ob h = some B ∧ k ∈ own (ov h)
/-- the machine M lies at m, in the blocks of O -/
def MMem (w : World) (m : Nat) (M : Mo) (O : Nat → Prop) : Prop :=
  ∃ bp bo be fp fo fe gb GF ov, MIn w m M bp bo be fp fo fe gb GF ov ∧ (∀ k, FMo M m bp bo be GF ov k → O k) ∧ ∀ k, O k → k < w.heap.size
theorem MIn.cp {G : Nat → Prop} {w w' : World} {m : Nat} {M : Mo} {bp bo be : Nat} {fp fo fe : Int → Option Value} {gb : Int → Nat} {GF : Int → Nat → Prop} {ov : Int → Value} (h : MIn w m M bp bo be fp fo fe gb GF ov) (hc : CP G w w') (hg : ∀ k, FMo M m bp bo be GF ov k → ¬ G k) : MIn w' m M bp bo be fp fo fe gb GF ov :=
  { blk := h.blk.cp hc (hg _ (.inl rfl)), mp := h.mp.cp hc (hg _ (.inr (.inl rfl))), mo := h.mo.cp hc (hg _ (.inr (.inr (.inl rfl)))), me := h.me.cp hc (hg _ (.inr (.inr (.inr (.inl rfl))))), hp := h.hp, pr := fun n p hp => (h.pr n p hp).cp hc (fun k hk => hg k (.inr (.inr (.inr (.inr (.inl ⟨n, p, hp, hk⟩)))))), ap := h.ap, rng := h.rng, ho := h.ho, ob := fun z B hB => ⟨SB.cp (h.ob z B hB).1 hc (fun k hk => hg k (.inr (.inr (.inr (.inr (.inr ⟨z, B, hB, hk⟩)))))), (h.ob z B hB).2⟩, oa := h.oa, he := h.he, d1 := h.d1, d2 := h.d2, d3 := h.d3, dm := h.dm }
theorem MMem.cp {O G : Nat → Prop} {w w' : World} {m : Nat} {M : Mo} (h : MMem w m M O) (hc : CP G w w') (hg : ∀ k, O k → ¬ G k) : MMem w' m M O := by
  obtain ⟨bp, bo, be, fp, fo, fe, gb, GF, ov, h1, h2, h3⟩ := h
  exact ⟨bp, bo, be, fp, fo, fe, gb, GF, ov, h1.cp hc (fun k hk => hg k (h2 k hk)), h2, fun k hk => Nat.lt_of_lt_of_le (h3 k hk) hc.size⟩
theorem MMem.stay {O : Nat → Prop} {w w' : World} {m : Nat} {M : Mo} (h : MMem w m M O) (hc : Chg [] w w') : MMem w' m M O := h.cp (CP.of0 (F := fun _ => False) hc) (fun _ _ h => h)
theorem MMem.lt {O : Nat → Prop} {w : World} {m : Nat} {M : Mo} (h : MMem w m M O) : ∀ k, O k → k < w.heap.size := by
  obtain ⟨bp, bo, be, fp, fo, fe, gb, GF, ov, h1, h2, h3⟩ := h
  exact h3
/-! ## The machine's own cells -/
theorem mgc_size (c : Cf) (bp bo be : Nat) : (mgc c bp bo be).size = 97 := by unfold mgc; rw [Array.size_append, cg_size]; rfl
theorem mgc_lo (c : Cf) (bp bo be : Nat) {i : Nat} (h : i < 94) : (mgc c bp bo be)[i]? = some (.int .i64 (c i)) := by
  unfold mgc
  rw [Array.getElem?_append_left (by rw [cg_size]; exact h)]
  exact cg_get c h
theorem mgc_hi (c : Cf) (bp bo be : Nat) : (mgc c bp bo be)[94]? = some (.map (some bp)) ∧ (mgc c bp bo be)[95]? = some (.map (some bo)) ∧ (mgc c bp bo be)[96]? = some (.map (some be)) := by
  unfold mgc
  refine ⟨?_, ?_, ?_⟩ <;> rw [Array.getElem?_append_right (by rw [cg_size]; omega), cg_size] <;> rfl
theorem mo_cells {w : World} {m bp bo be : Nat} {c : Cf} (h : Blk w m 62 (mgc c bp bo be)) :
    w.cell? ⟨m, 94, none⟩ = some (.map (some bp)) ∧ w.cell? ⟨m, 95, none⟩ = some (.map (some bo)) ∧ w.cell? ⟨m, 96, none⟩ = some (.map (some be)) ∧ m < w.heap.size ∧ w.cell? ⟨m, 0, none⟩ = some (.int .i64 (c 0)) :=
  ⟨(h.cell 94).trans (mgc_hi c bp bo be).1, (h.cell 95).trans (mgc_hi c bp bo be).2.1, (h.cell 96).trans (mgc_hi c bp bo be).2.2, h.lt, (h.cell 0).trans (mgc_lo c bp bo be (by omega))⟩
theorem mo_load26 {w : World} {m bp bo be : Nat} {c : Cf} (h : Blk w m 62 (mgc c bp bo be)) : (loadVar 26 ⟨m, 0, none⟩).run Tryz.prog w = .ok (.agg (cg c)) w := by
  have hr : w.rangeAt m 0 (cg c).toList := by
    have := World.rangeAt_of_block (C := mgc c bp bo be) h 0 94
    have e : ((mgc c bp bo be).extract 0 (0 + 94)).toList = (cg c).toList := by
      unfold mgc
      rw [show (0 + 94) = (cg c).size by rw [cg_size], Array.extract_append_left]
      simp
    rwa [e] at this
  have := run_loadVar_mid (P := Tryz.prog) w m 0 26 (cg c).toList _ hr Tryz.underlying26 rfl (by rw [Array.length_toList]; exact info26')
  simpa using this
end Go.Proofs.YtfoleblcaloeoaaGreatDoor

/- The model's small functions; New. -/
namespace Go.Proofs.YtfoleblcaloeoaaGreatDoor
open Go Go.RowKit

theorem eqM1 (b : Nat) (w : World) : (binOp .eql 58 (.map (some b)) (.map none)).run Tryz.prog w = .ok (.bool false) w := by kernel_rfl
theorem eqM0 (w : World) : (binOp .eql 58 (.map none) (.map none)).run Tryz.prog w = .ok (.bool true) w := by kernel_rfl
set_option maxRecDepth 20000 in
theorem none_any {w : World} {m bp bo be : Nat} {c : Cf} (h : Blk w m 62 (mgc c bp bo be)) :
    Calls Tryz.prog 27 #[.pointer (some ⟨m, 0, none⟩)] w fun e w' => e = .returned (.bool false) ∧ w = w' := by
  obtain ⟨q0, -, -, ql, -⟩ := mo_cells h
  have hem := eqM1 bp
  clear h
  go_enter Tryz.func27, Tryz.ntmps27
  go_wp2_with fail
  go_ret
  exact ⟨rfl, rfl⟩
theorem none_nil (w : World) : Calls Tryz.prog 27 #[.pointer none] w fun e w' => e = .returned (.bool true) ∧ w = w' := by
  go_enter Tryz.func27, Tryz.ntmps27
  go_wp2_with fail
  go_ret
  exact ⟨rfl, rfl⟩
structure BR (l : List (Nat × Value)) (r : Rs) (v : Value) : Prop where
  h : Tryz.prog.built 40 l = some (rsc r v)
theorem wpList_buildRs {ops : Array Oper} {rest : List Oper} {o : Oper} {a : Act} {w : World} {Q : Exit → Act → World → Prop} {r : Rs} {v : Value} (hg : o.guard = none) (parts : Array (Nat × Operand)) (ho : o.op = .build 40 parts)
    {l : List (Nat × Value)} (hb : BR l r v) (hl : (parts.map fun (i, x) => (i, a.eval x)).toList = l) (h : wpList Tryz.prog ops Q rest (a.put o.dst (.agg (rsc r v))) w) : wpList Tryz.prog ops Q (o :: rest) a w :=
  wpList_build hg 40 parts ho (by rw [hl, hb.h]; rfl) (by rw [hl, hb.h]; exact h)
theorem wpList_buildRsW {ops : Array Oper} {rest : List Oper} {o : Oper} {a : Act} {w : World} {Q : Exit → Act → World → Prop} {r : Rs} {v : Value} (parts : Array (Nat × Operand)) (ho : o.op = .build 40 parts)
    {l : List (Nat × Value)} (hw : Region.wanted o (yielded ops a.tmps) = true) (hb : BR l r v) (hl : (parts.map fun (i, x) => (i, a.eval x)).toList = l) (h : wpList Tryz.prog ops Q rest (a.put o.dst (.agg (rsc r v))) w) : wpList Tryz.prog ops Q (o :: rest) a w :=
  wpList_step fun K hK => by
    rw [if_pos hw]
    exact wp_build 40 parts ho (by rw [hl, hb.h]; rfl) (hK _ _ (by rw [hl, hb.h]; exact h))
theorem br_e (e : Int) : BR [(0, .int .i64 e)] (plainR e) zV := ⟨by kernel_rfl⟩
theorem br_v (v : Nat) : BR [(1, .int .u64 v)] ⟨0, v, []⟩ zV := ⟨by kernel_rfl⟩
theorem br_0 : BR [] (plainR 0) zV := ⟨by kernel_rfl⟩
theorem br_l (A : Option Addr) (n c : Nat) (l : List Nat) : BR [(2, .slice A n c)] ⟨0, 0, l⟩ (.slice A n c) := ⟨by kernel_rfl⟩
theorem made_rs {W w' : World} {o : Obj} (hc : Chg [W.heap.size] (W.alloc o) w') : Chg [] W w' :=
  ((Chg.refl [] W).alloc _).trans hc (fun y hy => .inr (by obtain rfl := List.mem_singleton.1 hy; exact Nat.le_refl _))
set_option maxRecDepth 20000 in
theorem plain_any (e : Int) (w : World) : Calls Tryz.prog 30 #[.int .i64 e] w fun e' w' => e' = .returned (.agg (rsc (plainR e) zV)) ∧ Chg [] w w' := by
  have HB := hide (br_e e)
  go_enter Tryz.func30, Tryz.ntmps30
  go_wp2_with (first | (refine wpList_allocRs rfl rfl ?_; try go_simp) | (refine wpList_buildRs rfl _ rfl HB.out ?_ ?_; (focus (simp [Act.eval]; done))) | (refine wpList_storeRs (b := w.heap.size) (y := plainR e) (u := zV) rfl _ _ rfl rfl rfl rfl (Blk.new w _ _) ?_; intro W4 h4 hc4))
  refine bodyPost_ret (v := .agg (rsc (plainR e) zV)) (results_cell_row (p := 2) (ty := 40) rfl _ _ w.heap.size 40 _ (0, 0) _ rfl h4 Tryz.underlying40 rfl infoRs) rfl ⟨rfl, made_rs hc4⟩
set_option maxRecDepth 20000 in
set_option maxHeartbeats 4000000 in
theorem free_any (k : Nat) (e : Int) (w : World) : Calls Tryz.prog 31 #[.int .u8 k, .int .i64 e] w fun e' w' => e' = .returned (.bool (freeK k e)) ∧ w = w' := by
  obtain ⟨R, hR⟩ : ∃ R, R = freeK k e := ⟨_, rfl⟩
  rw [← hR]
  unfold freeK at hR
  obtain ⟨k0, hk0⟩ : ∃ z : Int, z = (k : Int) := ⟨_, rfl⟩
  rw [← hk0]
  have e6 : (k == 6) = (k0 == 6) := by rw [hk0, Bool.eq_iff_iff]; simp; omega
  have e8 : (k == 8) = (k0 == 8) := by rw [hk0, Bool.eq_iff_iff]; simp; omega
  have e9 : (k == 9) = (k0 == 9) := by rw [hk0, Bool.eq_iff_iff]; simp; omega
  have e1 : (k == 1) = (k0 == 1) := by rw [hk0, Bool.eq_iff_iff]; simp; omega
  have e10 : (k == 10) = (k0 == 10) := by rw [hk0, Bool.eq_iff_iff]; simp; omega
  have e18 : (k == 18) = (k0 == 18) := by rw [hk0, Bool.eq_iff_iff]; simp; omega
  rw [e6, e8, e9, e1, e10, e18] at hR
  have HR := hide hR
  clear e6 e8 e9 e1 e10 e18 hk0 hR
  by_cases h6 : k0 = 6 ∨ k0 = 8 ∨ k0 = 9
  · by_cases he : e = 6
    · subst he
      rcases h6 with rfl | rfl | rfl
      all_goals
        go_enter Tryz.func31, Tryz.ntmps31
        go_wp2_with fail
        go_ret
        exact ⟨by rw [HR.out]; rfl, rfl⟩
    · have d1 : (e == 6) = false := beq_false_of_ne he
      have HE := hide he
      clear he
      rcases h6 with rfl | rfl | rfl
      all_goals
        go_enter Tryz.func31, Tryz.ntmps31
        go_wp2_with fail
        go_ret
        exact ⟨by rw [HR.out, decide_eq_false HE.out]; simp; rw [Bool.eq_iff_iff]; simp, rfl⟩
  · have f1 : (k0 == 6) = false := beq_false_of_ne (fun h => h6 (.inl h))
    have f2 : (k0 == 8) = false := beq_false_of_ne (fun h => h6 (.inr (.inl h)))
    have f3 : (k0 == 9) = false := beq_false_of_ne (fun h => h6 (.inr (.inr h)))
    have HF := hide (And.intro f1 (And.intro f2 f3))
    clear h6
    by_cases h1 : k0 = 1 ∨ k0 = 10 ∨ k0 = 18
    · rcases h1 with rfl | rfl | rfl
      all_goals
        clear f1 f2 f3
        go_enter Tryz.func31, Tryz.ntmps31
        go_wp2_with fail
        go_ret
        exact ⟨by rw [HR.out]; simp; rw [Bool.eq_iff_iff]; simp, rfl⟩
    · have g1 : (k0 == 1) = false := beq_false_of_ne (fun h => h1 (.inl h))
      have g2 : (k0 == 10) = false := beq_false_of_ne (fun h => h1 (.inr (.inl h)))
      have g3 : (k0 == 18) = false := beq_false_of_ne (fun h => h1 (.inr (.inr h)))
      have HG := hide (And.intro g1 (And.intro g2 g3))
      clear h1
      go_enter Tryz.func31, Tryz.ntmps31
      go_wp2_with fail
      go_ret
      exact ⟨by rw [HR.out, HF.out.1, HF.out.2.1, HF.out.2.2, HG.out.1, HG.out.2.1, HG.out.2.2]; rfl, rfl⟩
/-! ## New -/
structure BM (l : List (Nat × Value)) (c : Cf) (bp bo be : Nat) : Prop where
  h : Tryz.prog.built 62 l = some (mgc c bp bo be)
theorem bm_new (c : Cf) (bp bo be : Nat) : BM [(0, .agg (cg c)), (1, .map (some bp)), (2, .map (some bo)), (3, .map (some be))] c bp bo be := ⟨by kernel_rfl⟩
theorem wpList_buildMo {ops : Array Oper} {rest : List Oper} {o : Oper} {a : Act} {w : World} {Q : Exit → Act → World → Prop} {c : Cf} {bp bo be : Nat} (hg : o.guard = none) (parts : Array (Nat × Operand)) (ho : o.op = .build 62 parts)
    {l : List (Nat × Value)} (hb : BM l c bp bo be) (hl : (parts.map fun (i, x) => (i, a.eval x)).toList = l) (h : wpList Tryz.prog ops Q rest (a.put o.dst (.agg (mgc c bp bo be))) w) : wpList Tryz.prog ops Q (o :: rest) a w :=
  wpList_build hg 62 parts ho (by rw [hl, hb.h]; rfl) (by rw [hl, hb.h]; exact h)
theorem wpList_boxMo {ops : Array Oper} {rest : List Oper} {o : Oper} {a : Act} {w : World} {Q : Exit → Act → World → Prop} {cs : Array Value} (hg : o.guard = none) (z : Operand) (ho : o.op = .box 62 z) (hx : a.eval z = .agg cs)
    (h : wpList Tryz.prog ops Q rest (a.put o.dst (.pointer (some ⟨w.heap.size, 0, none⟩))) (w.alloc (.cells cs 62))) : wpList Tryz.prog ops Q (o :: rest) a w :=
  Great.wpList_runTo hg _ rfl _ _ (by unfold execOp; simp only [ho, hx, Sem.run_bind, Instr.box, newVar, newRow, run_newObj_alloc, Sem.run_pure, Result.andThen_ok, Value.cells]) h
set_option maxRecDepth 20000 in
set_option maxHeartbeats 4000000 in
theorem New_any {w : World} {c : Cf} (hc : mayB c = true) :
    Calls Tryz.prog 8 #[.agg (cg c)] w fun e w' => (∃ m, e = .returned (.tuple #[.pointer (some ⟨m, 0, none⟩), .int .i64 0]) ∧ ∃ O, MMem w' m (newMo c) O ∧ ∀ k, O k → w.heap.size ≤ k) ∧ Chg [] w w' := by
  obtain ⟨W2, hW2⟩ : ∃ W2, W2 = w.alloc (.cells (cg c) 26) := ⟨_, rfl⟩
  have hb : CB W2 w.heap.size c := by rw [hW2]; exact Blk.new w 26 _
  have HB := hide hb
  have HC := hide (show Chg [] w W2 by rw [hW2]; exact (Chg.refl [] w).alloc _)
  have HW2 := hide hW2
  have HM := hide (fun W => May_any c W)
  rw [hc] at HM
  clear hb hW2 hc
  go_enter Tryz.func8, Tryz.ntmps8
  go_wp2_with (first | (refine wpList_box26 rfl _ rfl rfl ?_; try rw [← HW2.out]) | (refine wpList_load26L (b := w.heap.size) (c := c) rfl _ rfl rfl ?_ ?_; (focus exact HB.out)))
  refine (HM.out _).mono ?_
  rintro e W3 ⟨rfl, hc3⟩
  have HC3 := hide (HC.out.stay hc3)
  have HB3 := hide (Blk.chg HB.out hc3 List.not_mem_nil)
  clear hc3 HB
  have hmk : ∀ (t : TypeId) (W : World), (Instr.makeMap t none).run Tryz.prog W = .ok (.map (some W.heap.size)) (W.alloc (.map #[] 0)) := fun t W => run_makeMap t W
  have HBM := hide (bm_new c W3.heap.size (W3.heap.size + 1) (W3.heap.size + 1 + 1))
  go_wp2_with (first | (refine wpList_load26L (b := w.heap.size) (c := c) rfl _ rfl rfl ?_ ?_; (focus exact HB3.out)) | (refine wpList_buildMo rfl _ rfl HBM.out ?_ ?_; (focus (simp [Act.eval]; done))) | (refine wpList_boxMo rfl _ rfl rfl ?_))
  have hs := HC3.out.size
  have HMK : ∃ O, MMem ((((W3.alloc (Obj.map #[] 0)).alloc (Obj.map #[] 0)).alloc (Obj.map #[] 0)).alloc (Obj.cells (mgc c W3.heap.size (W3.heap.size + 1) (W3.heap.size + 1 + 1)) 62)) (W3.heap.size + 1 + 1 + 1) (newMo c) O ∧ ∀ k, O k → w.heap.size ≤ k := by
    have h0 := MapB.new W3 .i64
    have h1 := MapB.new (W3.alloc (.map #[] 0)) .u64
    have h2 := MapB.new ((W3.alloc (.map #[] 0)).alloc (.map #[] 0)) .u64
    have h3 := Blk.new (((W3.alloc (.map #[] 0)).alloc (.map #[] 0)).alloc (.map #[] 0)) 62 (mgc c W3.heap.size (W3.heap.size + 1) (W3.heap.size + 1 + 1))
    simp only [World.size_alloc] at h0 h1 h2 h3
    refine ⟨fun k => W3.heap.size ≤ k ∧ k < W3.heap.size + 4, ⟨_, _, _, _, _, _, fun _ => 0, fun _ _ => False, fun _ => .slice none 0 0, ⟨h3, h0.stay ((((Chg.refl [] _).alloc _).alloc _).alloc _), h1.stay (((Chg.refl [] _).alloc _).alloc _), h2.stay ((Chg.refl [] _).alloc _), fun _ => rfl, ?_, ?_, ?_, fun _ => rfl, ?_, ?_, fun _ => rfl, ?_, ?_, ?_, ?_⟩, ?_, ?_⟩, fun k hk => ?_⟩
    · intro n p hp; cases hp
    · intro n n' p p' hp; cases hp
    · intro n p hp; cases hp
    · intro n p hp; cases hp
    · intro n n' p p' hp; cases hp
    · omega
    · omega
    · omega
    · intro n p hp; cases hp
    · intro k hk
      rcases hk with h | h | h | h | ⟨n, p, h, _⟩ | ⟨n, p, h, _⟩
      · show _ ≤ _ ∧ _; omega
      · show _ ≤ _ ∧ _; omega
      · show _ ≤ _ ∧ _; omega
      · show _ ≤ _ ∧ _; omega
      · cases h
      · cases h
    · intro k hk
      simp only [World.size_alloc]
      have : W3.heap.size ≤ k ∧ k < W3.heap.size + 4 := hk
      omega
    · have : W3.heap.size ≤ k ∧ k < W3.heap.size + 4 := hk
      omega
  go_ret2
  exact ⟨⟨_, rfl, HMK⟩, (((HC3.out.alloc _).alloc _).alloc _).alloc _⟩
end Go.Proofs.YtfoleblcaloeoaaGreatDoor
