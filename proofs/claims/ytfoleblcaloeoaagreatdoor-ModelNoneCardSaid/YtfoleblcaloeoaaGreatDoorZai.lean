/- Texts merged for the claim: CcA, ArA, ArB, ArC, ArD, ArE, ArF, ArG. -/
import Derived.Test.YtfoleblcaloeoaaGreatDoorZab
import Derived.Test.YtfoleblcaloeoaaGreatDoorZaa
import Derived.WalkKit
/- Results: their cells; whether one may be. -/
namespace Go.Proofs.YtfoleblcaloeoaaGreatDoor
open Go Go.RowKit

/-- a result, its bytes as a list -/
structure Rs where
  e : Int
  v : Nat
  l : List Nat
structure Rs.Ok (r : Rs) : Prop where
  e : -9223372036854775808 ≤ r.e ∧ r.e ≤ 9223372036854775807
  v : r.v < 18446744073709551616
  l : ∀ b ∈ r.l, b < 256
def zRs : Rs := ⟨0, 0, []⟩
def sameRs (r s : Rs) : Bool := r.e == s.e && r.v == s.v && decide (r.l = s.l)
theorem sameRs_iff (r s : Rs) : sameRs r s = true ↔ r = s := by
  obtain ⟨e, v, l⟩ := r
  obtain ⟨e', v', l'⟩ := s
  simp [sameRs, and_assoc]
def mayRs (r : Rs) : Bool := decide (0 ≤ r.e ∧ r.e ≤ 999) && decide (r.l.length ≤ 8) && (decide (r.e = 0) || (decide (r.v = 0) && decide (r.l.length = 0)))
def rsc (r : Rs) (v : Value) : Array Value := #[.int .i64 r.e, .int .u64 r.v, v]
abbrev XB (w : World) (b : Nat) (r : Rs) (v : Value) : Prop := Blk w b 40 (rsc r v)
theorem infoRs {x : Rs} {v : Value} : (Tryz.prog.info? 40).map (·.size) = some (rsc x v).size := by
  have : (Tryz.prog.info? 40).map (·.size) = some 3 := by kernel_rfl
  exact this
theorem rsc_one (x : Rs) {v : Value} (hv : v.oneCell' = true) : ((rsc x v).all fun u => u.oneCell') = true := by
  simp [rsc, hv, show ∀ k z, (Value.int k z).oneCell' = true from fun _ _ => rfl]
section
variable {ops : Array Oper} {rest : List Oper} {o : Oper} {a : Act} {w : World} {Q : Exit → Act → World → Prop} {b : Nat} {x y : Rs} {v u : Value}
theorem XB.load (h : XB w b x v) : (loadVar 40 ⟨b, 0, none⟩).run Tryz.prog w = .ok (.agg (rsc x v)) w :=
  run_loadVar_row w b 40 40 _ (0, 0) _ h Tryz.underlying40 rfl infoRs
theorem XB.stay {w' : World} (h : XB w b x v) (hc : Chg [] w w') : XB w' b x v := Blk.chg h hc List.not_mem_nil
theorem wpList_loadRs (hg : o.guard = none) (z : Operand) (ho : o.op = .load 40 z) (hx : a.eval z = .pointer (some ⟨b, 0, none⟩)) (h0 : XB w b x v) (h : wpList Tryz.prog ops Q rest (a.put o.dst (.agg (rsc x v))) w) : wpList Tryz.prog ops Q (o :: rest) a w :=
  wpList_load_row hg 40 z ho b hx 40 _ (0, 0) _ h0 Tryz.underlying40 rfl infoRs h
theorem wpList_storeRs (hg : o.guard = none) (z t : Operand) (ho : o.op = .store 40 z t) (hx : a.eval z = .pointer (some ⟨b, 0, none⟩)) (hy : a.eval t = .agg (rsc y u)) (hu : u.oneCell' = true) (h0 : XB w b x v)
    (h : ∀ w', XB w' b y u → Chg [b] w w' → wpList Tryz.prog ops Q rest (a.put o.dst undef) w') : wpList Tryz.prog ops Q (o :: rest) a w :=
  wpList_store_row hg 40 z t ho b _ hx hy 40 _ h0 infoRs rfl (rsc_one y hu) (h _ (setRow_heap w b _ _ _ _ h0) ((Chg.refl [b] w).setRow (.inl (by simp)) _))
theorem wpList_boxRs (hg : o.guard = none) (z : Operand) (ho : o.op = .box 40 z) (hx : a.eval z = .agg (rsc x v))
    (h : wpList Tryz.prog ops Q rest (a.put o.dst (.pointer (some ⟨w.heap.size, 0, none⟩))) (w.alloc (.cells (rsc x v) 40))) : wpList Tryz.prog ops Q (o :: rest) a w :=
  Great.wpList_runTo hg _ rfl _ _ (by unfold execOp; simp only [ho, hx, Sem.run_bind, Instr.box, newVar, newRow, run_newObj_alloc, Sem.run_pure, Result.andThen_ok, Value.cells]) h
theorem zeroRs : ∀ w, (zeroValue 40).run Tryz.prog w = .ok (.agg (rsc zRs zV)) w := by
  have h : (Tryz.prog.info? 40).map (fun i => (i.zero, i.size)) = some (some (.agg (rsc zRs zV)), 3) := by kernel_rfl
  exact (zero_of_info h).1
theorem run_allocRs (w : World) : (Instr.alloc 40 true (.tuple #[])).run Tryz.prog w = .ok (.pointer (some ⟨w.heap.size, 0, none⟩)) (w.alloc (.cells (rsc zRs zV) 40)) := by
  simp [Instr.alloc, Sem.run_bind, zeroRs, newVar, newRow, run_newObj_alloc, Value.cells, rsc, zRs, zV]
theorem wpList_allocRs (hg : o.guard = none) (ho : o.op = .alloc 40)
    (h : wpList Tryz.prog ops Q rest (a.put o.dst (.pointer (some ⟨w.heap.size, 0, none⟩))) (w.alloc (.cells (rsc zRs zV) 40))) : wpList Tryz.prog ops Q (o :: rest) a w :=
  Great.wpList_runTo hg _ rfl _ _ (by unfold execOp; simp only [ho, Sem.run_bind, run_allocRs, Sem.run_pure, Result.andThen_ok]) h
theorem wpList_loadRsW (z : Operand) (ho : o.op = .load 40 z)
    (hx : a.eval z = .pointer (some ⟨b, 0, none⟩)) (hw : Region.wanted o (yielded ops a.tmps) = true) (h0 : XB w b x v) (h : wpList Tryz.prog ops Q rest (a.put o.dst (.agg (rsc x v))) w) : wpList Tryz.prog ops Q (o :: rest) a w :=
  wpList_step fun K hK => by
    rw [if_pos hw]
    exact wp_load_row 40 z ho b hx 40 _ (0, 0) _ h0 Tryz.underlying40 rfl infoRs (hK _ _ h)
end
theorem XB.cells {w : World} {b : Nat} {x : Rs} {v : Value} (h : XB w b x v) :
    w.cell? ⟨b, 0, none⟩ = some (.int .i64 x.e) ∧ w.cell? ⟨b, 1, none⟩ = some (.int .u64 x.v) ∧ w.cell? ⟨b, 2, none⟩ = some v ∧ b < w.heap.size ∧ ∀ i, w.frozen? ⟨b, i, none⟩ = false :=
  ⟨by simpa [rsc] using Blk.cell h 0, by simpa [rsc] using Blk.cell h 1, by simpa [rsc] using Blk.cell h 2, Blk.lt h, Blk.frozen h⟩
end Go.Proofs.YtfoleblcaloeoaaGreatDoor

/- Runs of pages, plain. -/
namespace Go.Proofs.YtfoleblcaloeoaaGreatDoor.Ar

/-- a run: its first page, how many, its rights -/
structure Rn where
  p : Int
  c : Int
  g : Int
deriving DecidableEq
abbrev Rn.e (r : Rn) : Int := r.p + r.c
/-- the rights of a page: 0: none -/
def rt : List Rn → Int → Int
  | [], _ => 0
  | r :: l, q => if r.p ≤ q ∧ q < r.e then r.g else rt l q
/-- runs that rise from lo on; the one that meets lo has not the rights g -/
def Nm (lo g : Int) : List Rn → Prop
  | [] => True
  | r :: l => lo ≤ r.p ∧ 1 ≤ r.c ∧ r.g ≠ 0 ∧ (r.p = lo → r.g ≠ g) ∧ Nm r.e r.g l
def fin (lo g : Int) : List Rn → Int × Int
  | [] => (lo, g)
  | r :: l => fin r.e r.g l
theorem fin_snoc (lo g : Int) (l : List Rn) (r : Rn) : fin lo g (l ++ [r]) = (r.e, r.g) := by
  induction l generalizing lo g with
  | nil => rfl
  | cons a l ih => exact ih _ _
theorem nm_snoc (lo g : Int) (l : List Rn) (r : Rn) : Nm lo g (l ++ [r]) ↔ Nm lo g l ∧ (fin lo g l).1 ≤ r.p ∧ 1 ≤ r.c ∧ r.g ≠ 0 ∧ (r.p = (fin lo g l).1 → r.g ≠ (fin lo g l).2) := by
  induction l generalizing lo g with
  | nil => simp [Nm, fin]
  | cons a l ih =>
    simp only [List.cons_append, Nm, ih, fin]
    constructor
    · rintro ⟨h1, h2, h3, h4, h5, h6⟩; exact ⟨⟨h1, h2, h3, h4, h5⟩, h6⟩
    · rintro ⟨⟨h1, h2, h3, h4, h5⟩, h6⟩; exact ⟨h1, h2, h3, h4, h5, h6⟩
theorem fin_lo {lo g : Int} {l : List Rn} (h : Nm lo g l) : lo ≤ (fin lo g l).1 := by
  induction l generalizing lo g with
  | nil => exact Int.le_refl _
  | cons a l ih =>
    obtain ⟨h1, h2, h3, h4, h5⟩ := h
    have h6 := ih h5
    have e : a.e = a.p + a.c := rfl
    show lo ≤ (fin a.e a.g l).1
    rw [e] at h6 ⊢
    omega
theorem rt_lo {lo g : Int} {l : List Rn} (h : Nm lo g l) {q : Int} (hq : q < lo) : rt l q = 0 := by
  induction l generalizing lo g with
  | nil => rfl
  | cons a l ih =>
    obtain ⟨h1, h2, h3, h4, h5⟩ := h
    unfold rt
    rw [if_neg (by omega)]
    exact ih h5 (by have e : a.e = a.p + a.c := rfl; omega)
theorem rt_hi {lo g : Int} {l : List Rn} (h : Nm lo g l) {q : Int} (hq : (fin lo g l).1 ≤ q) : rt l q = 0 := by
  induction l generalizing lo g with
  | nil => rfl
  | cons a l ih =>
    obtain ⟨h1, h2, h3, h4, h5⟩ := h
    have h6 := fin_lo h5
    have h7 : (fin a.e a.g l).1 ≤ q := hq
    unfold rt
    rw [if_neg (by omega)]
    exact ih h5 hq
theorem rt_snoc {lo g : Int} {l : List Rn} {r : Rn} (h : Nm lo g (l ++ [r])) (q : Int) : rt (l ++ [r]) q = if r.p ≤ q ∧ q < r.e then r.g else rt l q := by
  induction l generalizing lo g with
  | nil => rfl
  | cons a l ih =>
    obtain ⟨h1, h2, h3, h4, h5⟩ := h
    have h6 := ((nm_snoc _ _ _ _).1 h5)
    have h7 := fin_lo h6.1
    have e : a.e = a.p + a.c := rfl
    show (if a.p ≤ q ∧ q < a.e then a.g else rt (l ++ [r]) q) = if r.p ≤ q ∧ q < r.e then r.g else (if a.p ≤ q ∧ q < a.e then a.g else rt l q)
    rw [ih h5]
    by_cases hr : r.p ≤ q ∧ q < r.e
    · rw [if_pos hr, if_pos hr, if_neg (by omega)]
    · rw [if_neg hr, if_neg hr]
/-- the runs are told by the rights -/
theorem nm_ext {lo g : Int} {l m : List Rn} (hl : Nm lo g l) (hm : Nm lo g m) (h : ∀ q, rt l q = rt m q) : l = m := by
  induction l generalizing lo g m with
  | nil =>
    cases m with
    | nil => rfl
    | cons b m =>
      obtain ⟨h1, h2, h3, h4, h5⟩ := hm
      have := h b.p
      simp only [rt] at this
      rw [if_pos ⟨Int.le_refl _, by have e : b.e = b.p + b.c := rfl; omega⟩] at this
      exact absurd this.symm h3
  | cons a l ih =>
    cases m with
    | nil =>
      obtain ⟨h1, h2, h3, h4, h5⟩ := hl
      have := h a.p
      simp only [rt] at this
      rw [if_pos ⟨Int.le_refl _, by have e : a.e = a.p + a.c := rfl; omega⟩] at this
      exact absurd this h3
    | cons b m =>
      obtain ⟨a1, a2, a3, a4, a5⟩ := hl
      obtain ⟨b1, b2, b3, b4, b5⟩ := hm
      have ea : a.e = a.p + a.c := rfl
      have eb : b.e = b.p + b.c := rfl
      have hp : a.p = b.p := by
        have ha := h a.p
        have hb := h b.p
        simp only [rt] at ha hb
        rw [if_pos (by omega)] at ha
        rw [if_pos (c := b.p ≤ b.p ∧ b.p < b.e) (by omega)] at hb
        refine Classical.byContradiction fun hne => ?_
        by_cases hlt : a.p < b.p
        · rw [if_neg (by omega), rt_lo b5 (by omega)] at ha
          exact a3 ha
        · rw [if_neg (by omega), rt_lo a5 (by omega)] at hb
          exact b3 hb.symm
      have hg : a.g = b.g := by
        have ha := h a.p
        simp only [rt] at ha
        rw [if_pos (by omega), if_pos (by omega)] at ha
        exact ha
      have first : ∀ {lo g : Int} {l : List Rn}, Nm lo g l → rt l lo ≠ g ∨ g = 0 := fun {lo g l} hn => by
        cases l with
        | nil =>
          by_cases e : g = 0
          · exact .inr e
          · exact .inl fun h => e h.symm
        | cons c l =>
          obtain ⟨c1, c2, c3, c4, c5⟩ := hn
          have ec : c.e = c.p + c.c := rfl
          by_cases e : c.p = lo
          · refine .inl ?_
            simp only [rt]
            rw [if_pos (by omega)]
            exact c4 e
          · by_cases e2 : g = 0
            · exact .inr e2
            · refine .inl ?_
              simp only [rt]
              rw [if_neg (by omega), rt_lo c5 (by omega)]
              exact fun h => e2 h.symm
      have he : a.c = b.c := by
        refine Classical.byContradiction fun hne => ?_
        by_cases hlt : a.e < b.e
        · have ha := h a.e
          simp only [rt] at ha
          rw [if_neg (by omega), if_pos (by omega)] at ha
          rcases first a5 with hf | hf
          · exact hf (by rw [ha, hg])
          · exact a3 hf
        · have ha := h b.e
          simp only [rt] at ha
          rw [if_pos (by omega), if_neg (by omega)] at ha
          rcases first b5 with hf | hf
          · exact hf (by rw [← ha, hg])
          · exact b3 hf
      have hab : a = b := by
        cases a; cases b
        simp only at hp hg he
        subst hp; subst hg; subst he
        rfl
      subst hab
      refine congrArg _ (ih a5 b5 fun q => ?_)
      have hq := h q
      simp only [rt] at hq
      by_cases hc : a.p ≤ q ∧ q < a.e
      · rw [rt_lo a5 hc.2, rt_lo b5 hc.2]
      · rwa [if_neg hc, if_neg hc] at hq

/-- a run is put behind others -/
def putL (l : List Rn) (r : Rn) : List Rn :=
  if r.c < 1 ∨ r.g = 0 then l else
  match l.getLast? with
  | none => l ++ [r]
  | some x => if x.e = r.p ∧ x.g = r.g then l.dropLast ++ [⟨x.p, x.c + r.c, x.g⟩] else l ++ [r]
theorem putL_none {l : List Rn} {r : Rn} (h : r.c < 1 ∨ r.g = 0) : putL l r = l := if_pos h
theorem putL_nil {r : Rn} (h : ¬ (r.c < 1 ∨ r.g = 0)) : putL [] r = [r] := by simp [putL, h]
theorem putL_join {l : List Rn} {x r : Rn} (h : ¬ (r.c < 1 ∨ r.g = 0)) (hx : x.e = r.p ∧ x.g = r.g) : putL (l ++ [x]) r = l ++ [⟨x.p, x.c + r.c, x.g⟩] := by
  unfold putL
  rw [if_neg h]
  simp [hx]
theorem putL_snoc {l : List Rn} {x r : Rn} (h : ¬ (r.c < 1 ∨ r.g = 0)) (hx : ¬ (x.e = r.p ∧ x.g = r.g)) : putL (l ++ [x]) r = l ++ [x] ++ [r] := by
  unfold putL
  rw [if_neg h]
  simp only [List.getLast?_append, List.getLast?_singleton, Option.or_some, Option.some_or]
  rw [if_neg hx]
theorem putL_spec {l : List Rn} {r : Rn} (h : Nm 0 0 l) (hr : (fin 0 0 l).1 ≤ r.p) :
    Nm 0 0 (putL l r) ∧ (fin 0 0 (putL l r)).1 = (if r.c < 1 ∨ r.g = 0 then (fin 0 0 l).1 else r.e) ∧ ∀ q, rt (putL l r) q = if r.p ≤ q ∧ q < r.e then r.g else rt l q := by
  have er : r.e = r.p + r.c := rfl
  by_cases hc : r.c < 1 ∨ r.g = 0
  · rw [putL_none hc, if_pos hc]
    refine ⟨h, rfl, fun q => ?_⟩
    by_cases hq : r.p ≤ q ∧ q < r.e
    · rw [if_pos hq, rt_hi h (by omega)]
      omega
    · rw [if_neg hq]
  · rw [if_neg hc]
    rcases List.eq_nil_or_concat l with rfl | ⟨l', x, rfl⟩
    · rw [putL_nil hc]
      have hr' : (0 : Int) ≤ r.p := hr
      exact ⟨⟨hr', by omega, by omega, fun _ => by omega, trivial⟩, rfl, fun q => rfl⟩
    · rw [List.concat_eq_append] at h hr ⊢
      rw [fin_snoc] at hr
      have hx := (nm_snoc _ _ _ _).1 h
      have ex : x.e = x.p + x.c := rfl
      by_cases hj : x.e = r.p ∧ x.g = r.g
      · rw [putL_join hc hj]
        have e2 : (⟨x.p, x.c + r.c, x.g⟩ : Rn).e = r.e := by show x.p + (x.c + r.c) = r.p + r.c; omega
        have hn : Nm 0 0 (l' ++ [⟨x.p, x.c + r.c, x.g⟩]) := (nm_snoc _ _ _ _).2 ⟨hx.1, hx.2.1, by show 1 ≤ x.c + r.c; omega, hx.2.2.2.1, hx.2.2.2.2⟩
        refine ⟨hn, by rw [fin_snoc]; exact e2, fun q => ?_⟩
        rw [rt_snoc hn, rt_snoc h, e2]
        show (if x.p ≤ q ∧ q < r.e then x.g else rt l' q) = _
        by_cases h1 : r.p ≤ q ∧ q < r.e
        · rw [if_pos h1, if_pos (by omega)]; exact hj.2
        · rw [if_neg h1]
          by_cases h2 : x.p ≤ q ∧ q < x.e
          · rw [if_pos h2, if_pos (by omega)]
          · rw [if_neg h2, if_neg (by omega)]
      · rw [putL_snoc hc hj]
        have hn : Nm 0 0 (l' ++ [x] ++ [r]) := (nm_snoc _ _ _ _).2 ⟨h, by rw [fin_snoc]; exact hr, by omega, by omega, fun e => by
          rw [fin_snoc] at e ⊢
          exact fun e3 => hj ⟨e.symm, e3.symm⟩⟩
        exact ⟨hn, by rw [fin_snoc], fun q => rt_snoc hn q⟩

/-- one run of the old ones -/
def stepL (page count g : Int) (s : List Rn × Bool) (r : Rn) : List Rn × Bool :=
  let l1 := putL s.1 ⟨r.p, min r.e page - r.p, r.g⟩
  let s2 : List Rn × Bool := if page < r.e then (if s.2 then l1 else putL l1 ⟨page, count, g⟩, true) else (l1, s.2)
  (putL s2.1 ⟨max r.p (page + count), r.e - max r.p (page + count), r.g⟩, s2.2)
def endL (page count g : Int) (s : List Rn × Bool) : List Rn := if s.2 then s.1 else putL s.1 ⟨page, count, g⟩
def withL (l : List Rn) (page count g : Int) : List Rn := endL page count g (l.foldl (stepL page count g) ([], false))

/-- what is known behind some of the old runs -/
structure Wth (page count g : Int) (old : List Rn) (s : List Rn × Bool) : Prop where
  nm : Nm 0 0 s.1
  no : s.2 = false → (fin 0 0 old).1 ≤ page ∧ (fin 0 0 s.1).1 ≤ (fin 0 0 old).1 ∧ ∀ q, rt s.1 q = rt old q
  yes : s.2 = true → page < (fin 0 0 old).1 ∧ (fin 0 0 s.1).1 ≤ max (fin 0 0 old).1 (page + count) ∧ ∀ q, rt s.1 q = if page ≤ q ∧ q < page + count then g else rt old q
theorem wth_step {page count g : Int} (h0 : 0 ≤ page) (h1 : 1 ≤ count) {old : List Rn} {s : List Rn × Bool} (hs : Wth page count g old s) {r : Rn} (hr : Nm 0 0 (old ++ [r])) : Wth page count g (old ++ [r]) (stepL page count g s r) := by
  obtain ⟨l, d⟩ := s
  obtain ⟨hnm, hno, hyes⟩ := hs
  have hx := (nm_snoc _ _ _ _).1 hr
  obtain ⟨ho, hp, hc, hg, hm⟩ := hx
  have er : r.e = r.p + r.c := rfl
  have hrt := rt_snoc hr
  have hf : (fin 0 0 (old ++ [r])).1 = r.e := by rw [fin_snoc]
  have ho0 := fin_lo ho
  cases d with
  | true =>
    obtain ⟨y1, y2, y3⟩ := hyes rfl
    simp only at y1 y2 y3 hnm
    have e1 : putL l ⟨r.p, min r.e page - r.p, r.g⟩ = l := putL_none (.inl (by show min r.e page - r.p < 1; omega))
    have e2 : stepL page count g (l, true) r = (putL l ⟨max r.p (page + count), r.e - max r.p (page + count), r.g⟩, true) := by
      unfold stepL
      simp only [e1]
      rw [if_pos (by omega)]
      rfl
    rw [e2]
    obtain ⟨p1, p2, p3⟩ := putL_spec (r := ⟨max r.p (page + count), r.e - max r.p (page + count), r.g⟩) hnm (by show _ ≤ max r.p (page + count); omega)
    refine ⟨p1, fun h => by (cases h), fun _ => ⟨by rw [hf]; omega, ?_, fun q => ?_⟩⟩
    · rw [p2, hf]
      show (if (r.e - max r.p (page + count) < 1 ∨ r.g = 0) then _ else max r.p (page + count) + (r.e - max r.p (page + count))) ≤ _
      split <;> omega
    · rw [p3, y3, hrt]
      show (if max r.p (page + count) ≤ q ∧ q < max r.p (page + count) + (r.e - max r.p (page + count)) then r.g else _) = _
      by_cases a1 : page ≤ q ∧ q < page + count
      · rw [if_pos a1, if_pos a1, if_neg (by omega)]
      · rw [if_neg a1, if_neg a1]
        by_cases a2 : r.p ≤ q ∧ q < r.e
        · rw [if_pos a2, if_pos (by omega)]
        · rw [if_neg a2, if_neg (by omega)]
  | false =>
    obtain ⟨n1, n2, n3⟩ := hno rfl
    simp only at n1 n2 n3 hnm
    obtain ⟨p1, p2, p3⟩ := putL_spec (r := ⟨r.p, min r.e page - r.p, r.g⟩) hnm (by show _ ≤ r.p; omega)
    have p2' : (fin 0 0 (putL l ⟨r.p, min r.e page - r.p, r.g⟩)).1 ≤ min page r.e := by
      rw [p2]
      show (if (min r.e page - r.p < 1 ∨ r.g = 0) then _ else r.p + (min r.e page - r.p)) ≤ _
      split <;> omega
    have p3' : ∀ q, rt (putL l ⟨r.p, min r.e page - r.p, r.g⟩) q = if r.p ≤ q ∧ q < min r.e page then r.g else rt old q := fun q => by
      rw [p3, n3]
      show (if r.p ≤ q ∧ q < r.p + (min r.e page - r.p) then r.g else _) = _
      have : r.p + (min r.e page - r.p) = min r.e page := by omega
      rw [this]
    unfold stepL
    simp only
    generalize putL l ⟨r.p, min r.e page - r.p, r.g⟩ = l1 at p1 p2' p3' ⊢
    by_cases hb : page < r.e
    · rw [if_pos hb]
      simp only [Bool.false_eq_true, if_false]
      obtain ⟨q1, q2, q3⟩ := putL_spec (r := ⟨page, count, g⟩) p1 (by show _ ≤ page; omega)
      have q2' : (fin 0 0 (putL l1 ⟨page, count, g⟩)).1 ≤ page + count := by
        rw [q2]
        show (if (count < 1 ∨ g = 0) then _ else page + count) ≤ _
        split <;> omega
      have q3' : ∀ q, rt (putL l1 ⟨page, count, g⟩) q = if page ≤ q ∧ q < page + count then g else rt l1 q := q3
      generalize putL l1 ⟨page, count, g⟩ = l2 at q1 q2' q3' ⊢
      obtain ⟨s1, s2, s3⟩ := putL_spec (r := ⟨max r.p (page + count), r.e - max r.p (page + count), r.g⟩) q1 (by show _ ≤ max r.p (page + count); omega)
      refine ⟨s1, fun h => by (cases h), fun _ => ⟨by rw [hf]; omega, ?_, fun q => ?_⟩⟩
      · rw [s2, hf]
        show (if (r.e - max r.p (page + count) < 1 ∨ r.g = 0) then _ else max r.p (page + count) + (r.e - max r.p (page + count))) ≤ _
        split <;> omega
      · rw [s3, q3', p3', hrt]
        show (if max r.p (page + count) ≤ q ∧ q < max r.p (page + count) + (r.e - max r.p (page + count)) then r.g else _) = _
        by_cases a1 : page ≤ q ∧ q < page + count
        · rw [if_pos a1, if_pos a1, if_neg (by omega)]
        · rw [if_neg a1, if_neg a1]
          by_cases a2 : r.p ≤ q ∧ q < r.e
          · rw [if_pos a2]
            by_cases a3 : page + count ≤ q
            · rw [if_pos (by omega)]
            · rw [if_neg (by omega), if_pos (by omega)]
          · rw [if_neg a2, if_neg (by omega), if_neg (by omega)]
    · rw [if_neg hb]
      have e3 : putL l1 ⟨max r.p (page + count), r.e - max r.p (page + count), r.g⟩ = l1 := putL_none (.inl (by show r.e - max r.p (page + count) < 1; omega))
      simp only [e3]
      refine ⟨p1, fun _ => ⟨by rw [hf]; omega, by rw [hf]; simp only; omega, fun q => ?_⟩, fun h => by (cases h)⟩
      simp only
      rw [p3', hrt]
      by_cases a2 : r.p ≤ q ∧ q < r.e
      · rw [if_pos a2, if_pos (by omega)]
      · rw [if_neg a2, if_neg (by omega)]
theorem wth_fold {page count g : Int} (h0 : 0 ≤ page) (h1 : 1 ≤ count) : ∀ (l old : List Rn) (s : List Rn × Bool), Wth page count g old s → Nm 0 0 (old ++ l) → Wth page count g (old ++ l) (l.foldl (stepL page count g) s)
  | [], old, s, hs, _ => by simpa using hs
  | r :: l, old, s, hs, hn => by
    have e : old ++ r :: l = (old ++ [r]) ++ l := by simp
    rw [e] at hn ⊢
    have h3 : Nm 0 0 (old ++ [r]) := by
      have cut : ∀ (l m : List Rn) {lo g : Int}, Nm lo g (l ++ m) → Nm lo g l := fun l => by
        induction l with
        | nil => intro m lo g _; exact trivial
        | cons a l ih => intro m lo g h; exact ⟨h.1, h.2.1, h.2.2.1, h.2.2.2.1, ih m h.2.2.2.2⟩
      exact cut _ _ hn
    exact wth_fold h0 h1 l (old ++ [r]) _ (wth_step h0 h1 hs h3) hn
/-- THE LAW of 'with' -/
theorem with_spec {l : List Rn} {page count g : Int} (h : Nm 0 0 l) (h0 : 0 ≤ page) (h1 : 1 ≤ count) :
    Nm 0 0 (withL l page count g) ∧ ∀ q, rt (withL l page count g) q = if page ≤ q ∧ q < page + count then g else rt l q := by
  have hw := wth_fold (g := g) h0 h1 l [] ([], false) ⟨trivial, fun _ => ⟨h0, Int.le_refl _, fun _ => rfl⟩, fun h => by cases h⟩ (by simpa using h)
  rw [List.nil_append] at hw
  unfold withL endL
  generalize l.foldl (stepL page count g) ([], false) = s at hw ⊢
  obtain ⟨m, d⟩ := s
  obtain ⟨hnm, hno, hyes⟩ := hw
  cases d with
  | true =>
    obtain ⟨y1, y2, y3⟩ := hyes rfl
    exact ⟨hnm, y3⟩
  | false =>
    obtain ⟨n1, n2, n3⟩ := hno rfl
    obtain ⟨p1, p2, p3⟩ := putL_spec (r := ⟨page, count, g⟩) hnm (by show _ ≤ page; omega)
    exact ⟨p1, fun q => by rw [← n3]; exact p3 q⟩
end Go.Proofs.YtfoleblcaloeoaaGreatDoor.Ar

namespace Go.Proofs.YtfoleblcaloeoaaGreatDoor.Ar

/-! ## How many of a range are mapped -/
def ovl (page count : Int) (r : Rn) : Int := max 0 (min r.e (page + count) - max r.p page)
def cntL (l : List Rn) (page count : Int) : Int := (l.map (ovl page count)).sum
/-- as many of the pages from page on, n of them, have f -/
def cntP (f : Int → Bool) (page : Int) : Nat → Nat
  | 0 => 0
  | n + 1 => cntP f page n + if f (page + n) then 1 else 0
theorem cntP_le (f : Int → Bool) (page : Int) (n : Nat) : cntP f page n ≤ n := by
  induction n with
  | zero => exact Nat.le_refl _
  | succ n ih => unfold cntP; split <;> omega
theorem cntP_or {f g h : Int → Bool} (hf : ∀ q, h q = (f q || g q)) (hx : ∀ q, f q = true → g q = false) (page : Int) (n : Nat) : cntP h page n = cntP f page n + cntP g page n := by
  induction n with
  | zero => rfl
  | succ n ih =>
    unfold cntP
    rw [ih, hf]
    have := hx (page + n)
    cases e : f (page + n)
    · cases g (page + n) <;> simp <;> omega
    · rw [this e]; simp; omega
theorem cntP_in (a b page : Int) (n : Nat) : (cntP (fun q => decide (a ≤ q ∧ q < b)) page n : Int) = max 0 (min b (page + n) - max a page) := by
  induction n with
  | zero => simp [cntP]; omega
  | succ n ih =>
    unfold cntP
    by_cases h : a ≤ page + n ∧ page + n < b
    · rw [if_pos (by simpa using h)]; omega
    · rw [if_neg (by simpa using h)]; omega
theorem cntP_pos {f : Int → Bool} {page : Int} {n : Nat} : 0 < cntP f page n ↔ ∃ q, page ≤ q ∧ q < page + n ∧ f q = true := by
  induction n with
  | zero => exact ⟨fun h => by simp [cntP] at h, fun ⟨q, h1, h2, _⟩ => by simp at h2; omega⟩
  | succ n ih =>
    unfold cntP
    cases e : f (page + n)
    · rw [if_neg (by simp), Nat.add_zero, ih]
      constructor
      · rintro ⟨q, h1, h2, h3⟩; exact ⟨q, h1, by omega, h3⟩
      · rintro ⟨q, h1, h2, h3⟩
        refine ⟨q, h1, Classical.byContradiction fun h => ?_, h3⟩
        obtain rfl : q = page + n := by omega
        rw [e] at h3; cases h3
    · rw [if_pos rfl]
      exact ⟨fun _ => ⟨page + n, by omega, by omega, e⟩, fun _ => by omega⟩
theorem cntP_lt {f : Int → Bool} {page : Int} {n : Nat} : cntP f page n < n ↔ ∃ q, page ≤ q ∧ q < page + n ∧ f q = false := by
  induction n with
  | zero => exact ⟨fun h => by omega, fun ⟨q, h1, h2, _⟩ => by simp at h2; omega⟩
  | succ n ih =>
    unfold cntP
    cases e : f (page + n)
    · rw [if_neg (by simp), Nat.add_zero]
      exact ⟨fun _ => ⟨page + n, by omega, by omega, e⟩, fun _ => by have := cntP_le f page n; omega⟩
    · rw [if_pos rfl]
      constructor
      · intro h
        obtain ⟨q, h1, h2, h3⟩ := ih.1 (by omega)
        exact ⟨q, h1, by omega, h3⟩
      · rintro ⟨q, h1, h2, h3⟩
        have : ∃ q, page ≤ q ∧ q < page + n ∧ f q = false := by
          refine ⟨q, h1, Classical.byContradiction fun h => ?_, h3⟩
          obtain rfl : q = page + n := by omega
          rw [e] at h3; cases h3
        have := ih.2 this
        omega
theorem cntL_eq {lo g : Int} {l : List Rn} (h : Nm lo g l) (page : Int) (n : Nat) : cntL l page n = (cntP (fun q => decide (rt l q ≠ 0)) page n : Nat) := by
  induction l generalizing lo g with
  | nil =>
    have : cntP (fun q => decide (rt [] q ≠ 0)) page n = 0 := by
      induction n with
      | zero => rfl
      | succ n ih => unfold cntP; rw [ih]; simp [rt]
    rw [this]
    rfl
  | cons a l ih =>
    obtain ⟨h1, h2, h3, h4, h5⟩ := h
    have e := cntP_or (f := fun q => decide (a.p ≤ q ∧ q < a.e)) (g := fun q => decide (rt l q ≠ 0)) (h := fun q => decide (rt (a :: l) q ≠ 0)) (fun q => by
      show decide ((if a.p ≤ q ∧ q < a.e then a.g else rt l q) ≠ 0) = _
      by_cases hq : a.p ≤ q ∧ q < a.e
      · rw [if_pos hq]; simp [h3, hq]
      · rw [if_neg hq]
        have : decide (a.p ≤ q ∧ q < a.e) = false := decide_eq_false hq
        rw [this]; simp) (fun q hq => by
      have hq' : a.p ≤ q ∧ q < a.e := by simpa using hq
      have := rt_lo h5 hq'.2
      simp [this]) page n
    rw [e, Int.natCast_add, ← ih h5, cntP_in]
    rfl
theorem cnt_pos {l : List Rn} (h : Nm 0 0 l) {page count : Int} (hc : 0 ≤ count) : 0 < cntL l page count ↔ ∃ q, page ≤ q ∧ q < page + count ∧ rt l q ≠ 0 := by
  obtain ⟨n, rfl⟩ : ∃ n : Nat, count = n := ⟨count.toNat, by omega⟩
  rw [cntL_eq h]
  have := cntP_pos (f := fun q => decide (rt l q ≠ 0)) (page := page) (n := n)
  simp only [decide_eq_true_eq] at this
  rw [← this]
  omega
theorem cnt_lt {l : List Rn} (h : Nm 0 0 l) {page count : Int} (hc : 0 ≤ count) : cntL l page count < count ↔ ∃ q, page ≤ q ∧ q < page + count ∧ rt l q = 0 := by
  obtain ⟨n, rfl⟩ : ∃ n : Nat, count = n := ⟨count.toNat, by omega⟩
  rw [cntL_eq h]
  have := cntP_lt (f := fun q => decide (rt l q ≠ 0)) (page := page) (n := n)
  simp only [decide_eq_false_iff_not, Classical.not_not] at this
  rw [← this]
  omega
theorem cnt_le {l : List Rn} (h : Nm 0 0 l) {page count : Int} (hc : 0 ≤ count) : 0 ≤ cntL l page count ∧ cntL l page count ≤ count := by
  obtain ⟨n, rfl⟩ : ∃ n : Nat, count = n := ⟨count.toNat, by omega⟩
  rw [cntL_eq h]
  have := cntP_le (fun q => decide (rt l q ≠ 0)) page n
  omega

/-! ## A space -/
structure Sp (l : List Rn) : Prop where
  nm : Nm 0 0 l
  hi : ∀ q, 1024 ≤ q → rt l q = 0
  g : ∀ q, 0 ≤ rt l q ∧ rt l q ≤ 3
  len : l.length ≤ 32
theorem Sp.nil : Sp [] := ⟨trivial, fun _ _ => rfl, fun _ => by simp [rt], by simp⟩
theorem rt_mem {lo g : Int} {l : List Rn} (h : Nm lo g l) {r : Rn} (hr : r ∈ l) {q : Int} (h1 : r.p ≤ q) (h2 : q < r.e) : rt l q = r.g := by
  induction l generalizing lo g with
  | nil => cases hr
  | cons a l ih =>
    obtain ⟨n1, n2, n3, n4, n5⟩ := h
    unfold rt
    rcases List.mem_cons.1 hr with rfl | hr
    · rw [if_pos ⟨h1, h2⟩]
    · have h3 := ih n5 hr
      have hlo : ∀ {lo g : Int} {l : List Rn}, Nm lo g l → ∀ r ∈ l, lo ≤ r.p := fun {lo g l} => by
        induction l generalizing lo g with
        | nil => intro _ r hr; cases hr
        | cons b l ih =>
          intro h r hr
          obtain ⟨n1, n2, n3, n4, n5⟩ := h
          have eb : b.e = b.p + b.c := rfl
          rcases List.mem_cons.1 hr with rfl | hr
          · exact n1
          · have := ih n5 r hr; omega
      have := hlo n5 r hr
      rw [if_neg (by omega)]
      exact h3
theorem nm_mem {lo g : Int} {l : List Rn} (h : Nm lo g l) {r : Rn} (hr : r ∈ l) : lo ≤ r.p ∧ 1 ≤ r.c ∧ r.g ≠ 0 := by
  induction l generalizing lo g with
  | nil => cases hr
  | cons a l ih =>
    obtain ⟨n1, n2, n3, n4, n5⟩ := h
    have ea : a.e = a.p + a.c := rfl
    rcases List.mem_cons.1 hr with rfl | hr
    · exact ⟨n1, n2, n3⟩
    · have := ih n5 hr; exact ⟨by omega, this.2⟩
theorem Sp.mem {l : List Rn} (h : Sp l) {r : Rn} (hr : r ∈ l) : 0 ≤ r.p ∧ 1 ≤ r.c ∧ r.p + r.c ≤ 1024 ∧ 1 ≤ r.g ∧ r.g ≤ 3 := by
  obtain ⟨h1, h2, h3⟩ := nm_mem h.nm hr
  have er : r.e = r.p + r.c := rfl
  have h4 := rt_mem h.nm hr (q := r.p) (Int.le_refl _) (by omega)
  have h5 := rt_mem h.nm hr (q := r.e - 1) (by omega) (by omega)
  have h6 := h.g r.p
  refine ⟨h1, h2, Classical.byContradiction fun hn => ?_, by omega, by omega⟩
  have := h.hi (r.e - 1) (by omega)
  omega
def mayB (page count : Int) : Bool := decide (0 ≤ page ∧ 1 ≤ count ∧ count ≤ 1024 ∧ page ≤ 1024 - count)
def rgB (g : Int) : Bool := decide (1 ≤ g ∧ g ≤ 3)
/-- are the new runs kept? -/
def setE (m : List Rn) : Int := if 32 < m.length then 9 else 0
def setR (l m : List Rn) : List Rn := if 32 < m.length then l else m
def mapE (l : List Rn) (page count g : Int) : Int :=
  if mayB page count = false ∨ rgB g = false then 2 else if 0 < cntL l page count then 8 else setE (withL l page count g)
def mapR (l : List Rn) (page count g : Int) : List Rn :=
  if mayB page count = false ∨ rgB g = false then l else if 0 < cntL l page count then l else setR l (withL l page count g)
def unE (l : List Rn) (page count : Int) : Int := if mayB page count = false then 2 else setE (withL l page count 0)
def unR (l : List Rn) (page count : Int) : List Rn := if mayB page count = false then l else setR l (withL l page count 0)
def mdE (l : List Rn) (page count : Int) : Int := if mayB page count = false then 2 else if cntL l page count < count then 7 else 0
def prE (l : List Rn) (page count g : Int) : Int := if rgB g = false then 2 else if mdE l page count ≠ 0 then mdE l page count else setE (withL l page count g)
def prR (l : List Rn) (page count g : Int) : List Rn := if rgB g = false then l else if mdE l page count ≠ 0 then l else setR l (withL l page count g)
theorem Sp.with_ {l : List Rn} (h : Sp l) {page count g : Int} (hm : mayB page count = true) (hg : 0 ≤ g ∧ g ≤ 3) (hl : (withL l page count g).length ≤ 32) : Sp (withL l page count g) := by
  have hm' : 0 ≤ page ∧ 1 ≤ count ∧ count ≤ 1024 ∧ page ≤ 1024 - count := by simpa [mayB] using hm
  obtain ⟨w1, w2⟩ := with_spec (g := g) h.nm hm'.1 hm'.2.1
  refine ⟨w1, fun q hq => ?_, fun q => ?_, hl⟩
  · rw [w2, if_neg (by omega)]; exact h.hi q hq
  · rw [w2]
    split
    · exact hg
    · exact h.g q
theorem Sp.set {l : List Rn} (h : Sp l) {page count g : Int} (hm : mayB page count = true) (hg : 0 ≤ g ∧ g ≤ 3) : Sp (setR l (withL l page count g)) := by
  unfold setR
  split
  · exact h
  · exact h.with_ hm hg (by omega)
theorem Sp.map {l : List Rn} (h : Sp l) (page count g : Int) : Sp (mapR l page count g) := by
  unfold mapR
  split
  · exact h
  · rename_i hc
    split
    · exact h
    · have hg : 1 ≤ g ∧ g ≤ 3 := by simpa [rgB] using fun e => hc (.inr e)
      exact h.set (by simpa using fun e => hc (.inl e)) (by omega)
theorem Sp.un {l : List Rn} (h : Sp l) (page count : Int) : Sp (unR l page count) := by
  unfold unR
  split
  · exact h
  · rename_i hc; exact h.set (by simpa using hc) (by omega)
theorem mdE_may {l : List Rn} {page count : Int} (h : mdE l page count = 0) : mayB page count = true := by
  unfold mdE at h
  split at h
  · omega
  · rename_i hc; simpa using hc
theorem Sp.pr {l : List Rn} (h : Sp l) (page count g : Int) : Sp (prR l page count g) := by
  unfold prR
  split
  · exact h
  · rename_i hc
    split
    · exact h
    · rename_i hd
      have hg : 1 ≤ g ∧ g ≤ 3 := by simpa [rgB] using hc
      exact h.set (mdE_may (Classical.not_not.1 hd)) (by omega)
end Go.Proofs.YtfoleblcaloeoaaGreatDoor.Ar

namespace Go.Proofs.YtfoleblcaloeoaaGreatDoor.Ar

/-! ## What the laws ask, plain -/
theorem mayB_iff {page count : Int} : mayB page count = true ↔ 0 ≤ page ∧ 1 ≤ count ∧ count ≤ 1024 ∧ page ≤ 1024 - count := by simp [mayB]
theorem rgB_iff {g : Int} : rgB g = true ↔ 1 ≤ g ∧ g ≤ 3 := by simp [rgB]
/-- a Map that was answered OK -/
theorem map_ok {l : List Rn} (h : Sp l) {page count g : Int} (he : mapE l page count g = 0) :
    mayB page count = true ∧ rgB g = true ∧ (∀ q, page ≤ q → q < page + count → rt l q = 0) ∧ mapR l page count g = withL l page count g ∧ (withL l page count g).length ≤ 32 ∧ Sp (withL l page count g) ∧ ∀ q, rt (withL l page count g) q = if page ≤ q ∧ q < page + count then g else rt l q := by
  unfold mapE at he
  unfold mapR
  by_cases h1 : mayB page count = false ∨ rgB g = false
  · rw [if_pos h1] at he; omega
  rw [if_neg h1] at he
  rw [if_neg h1]
  by_cases h2 : 0 < cntL l page count
  · rw [if_pos h2] at he; omega
  rw [if_neg h2] at he
  rw [if_neg h2]
  have hm : mayB page count = true := by simpa using fun e => h1 (.inl e)
  have hg : rgB g = true := by simpa using fun e => h1 (.inr e)
  have hm' := mayB_iff.1 hm
  have hg' := rgB_iff.1 hg
  unfold setE at he
  unfold setR
  by_cases h3 : 32 < (withL l page count g).length
  · rw [if_pos h3] at he; omega
  rw [if_neg h3]
  refine ⟨hm, hg, fun q a b => Classical.byContradiction fun hn => h2 ((cnt_pos h.nm (by omega)).2 ⟨q, a, b, hn⟩), rfl, by omega, h.with_ hm (by omega) (by omega), (with_spec h.nm hm'.1 hm'.2.1).2⟩
theorem law_back {l : List Rn} (h : Sp l) {page count g : Int} (he : mapE l page count g = 0) :
    mdE (mapR l page count g) page count = 0 ∧ unE (mapR l page count g) page count = 0 ∧ unR (mapR l page count g) page count = l ∧ mdE l page 1 = 7 := by
  obtain ⟨hm, hg, h0, hR, hl, hS, hrt⟩ := map_ok h he
  rw [hR]
  have hm' := mayB_iff.1 hm
  have hg' := rgB_iff.1 hg
  obtain ⟨w1, w2⟩ := with_spec (g := 0) hS.nm hm'.1 hm'.2.1
  have e : withL (withL l page count g) page count 0 = l := nm_ext w1 h.nm fun q => by
    rw [w2, hrt]
    by_cases hq : page ≤ q ∧ q < page + count
    · rw [if_pos hq, h0 q hq.1 hq.2]
    · rw [if_neg hq, if_neg hq]
  refine ⟨?_, ?_, ?_, ?_⟩
  · unfold mdE
    rw [if_neg (by simp [hm]), if_neg fun hlt => ?_]
    obtain ⟨q, a, b, hz⟩ := (cnt_lt hS.nm (by omega)).1 hlt
    rw [hrt, if_pos ⟨a, b⟩] at hz
    omega
  · unfold unE setE
    rw [if_neg (by simp [hm]), e, if_neg (by have := h.len; omega)]
  · unfold unR setR
    rw [if_neg (by simp [hm]), e, if_neg (by have := h.len; omega)]
  · unfold mdE
    rw [if_neg (by simp [mayB]; omega), if_pos ((cnt_lt h.nm (by omega)).2 ⟨page, Int.le_refl _, by omega, h0 page (Int.le_refl _) (by omega)⟩)]
theorem law_either {l : List Rn} (h : Sp l) {p c g p' c' g' : Int} (e1 : mapE l p c g = 0) (e2 : mapE (mapR l p c g) p' c' g' = 0) (e3 : mapE l p' c' g' = 0) (e4 : mapE (mapR l p' c' g') p c g = 0) :
    mapR (mapR l p c g) p' c' g' = mapR (mapR l p' c' g') p c g := by
  obtain ⟨hm, hg, h0, hR, hl, hS, hrt⟩ := map_ok h e1
  obtain ⟨hm', hg', h0', hR', hl', hS', hrt'⟩ := map_ok h e3
  rw [hR] at e2 ⊢
  rw [hR'] at e4 ⊢
  obtain ⟨_, _, k0, kR, _, kS, krt⟩ := map_ok hS e2
  obtain ⟨_, _, k0', kR', _, kS', krt'⟩ := map_ok hS' e4
  rw [kR, kR']
  have hgg := rgB_iff.1 hg
  refine nm_ext kS.nm kS'.nm fun q => ?_
  rw [krt, krt', hrt, hrt']
  by_cases ha : p ≤ q ∧ q < p + c
  · by_cases hb : p' ≤ q ∧ q < p' + c'
    · have := k0 q hb.1 hb.2
      rw [hrt, if_pos ha] at this
      omega
    · rw [if_neg hb, if_pos ha, if_pos ha]
  · rw [if_neg ha, if_neg ha]
theorem law_hole1 {page count g : Int} (he : mapE [] page count g = 0) : mapR [] page count g = [⟨page, count, g⟩] ∧ mayB page count = true ∧ rgB g = true := by
  obtain ⟨hm, hg, h0, hR, hl, hS, hrt⟩ := map_ok Sp.nil he
  have hm' := mayB_iff.1 hm
  have hg' := rgB_iff.1 hg
  refine ⟨?_, hm, hg⟩
  rw [hR]
  show putL [] _ = _
  exact putL_nil (by show ¬ (count < 1 ∨ g = 0); omega)
theorem law_hole2 {page count g at_ many : Int} (hm : mayB page count = true) (hg : rgB g = true) (h1 : page < at_) (h2 : 1 ≤ many) (h3 : at_ + many < page + count) :
    unE [⟨page, count, g⟩] at_ many = 0 ∧ unR [⟨page, count, g⟩] at_ many = [⟨page, at_ - page, g⟩, ⟨at_ + many, page + count - at_ - many, g⟩] := by
  have hm' := mayB_iff.1 hm
  have hg' := rgB_iff.1 hg
  have hn : Nm 0 0 [⟨page, count, g⟩] := ⟨hm'.1, hm'.2.1, by show g ≠ 0; omega, fun _ => by show g ≠ 0; omega, trivial⟩
  obtain ⟨w1, w2⟩ := with_spec (page := at_) (count := many) (g := 0) hn (by omega) h2
  have e : withL [⟨page, count, g⟩] at_ many 0 = [⟨page, at_ - page, g⟩, ⟨at_ + many, page + count - at_ - many, g⟩] := by
    refine nm_ext w1 ⟨hm'.1, ?_, ?_, fun _ => ?_, ?_, ?_, ?_, fun hx => ?_, trivial⟩ fun q => ?_
    · show 1 ≤ at_ - page; omega
    · show g ≠ 0; omega
    · show g ≠ 0; omega
    · show page + (at_ - page) ≤ at_ + many; omega
    · show 1 ≤ page + count - at_ - many; omega
    · show g ≠ 0; omega
    · have : at_ + many = page + (at_ - page) := hx
      omega
    · rw [w2]
      show _ = (if page ≤ q ∧ q < page + (at_ - page) then g else if at_ + many ≤ q ∧ q < at_ + many + (page + count - at_ - many) then g else 0)
      show (if at_ ≤ q ∧ q < at_ + many then 0 else if page ≤ q ∧ q < page + count then g else 0) = _
      by_cases a1 : at_ ≤ q ∧ q < at_ + many
      · rw [if_pos a1, if_neg (by omega), if_neg (by omega)]
      · rw [if_neg a1]
        by_cases a2 : page ≤ q ∧ q < page + count
        · rw [if_pos a2]
          by_cases a3 : page ≤ q ∧ q < page + (at_ - page)
          · rw [if_pos a3]
          · rw [if_neg a3, if_pos (by omega)]
        · rw [if_neg a2, if_neg (by omega), if_neg (by omega)]
  have hm2 : mayB at_ many = true := mayB_iff.2 (by omega)
  unfold unE unR setE setR
  rw [e]
  simp [hm2]
theorem law_hole3 {page count g at_ many o : Int} (hm : mayB page count = true) (hg : rgB g = true) (h1 : page < at_) (h2 : 1 ≤ many) (h3 : at_ + many < page + count) (hne : o ≠ g) (he : prE [⟨page, count, g⟩] at_ many o = 0) :
    prR [⟨page, count, g⟩] at_ many o = [⟨page, at_ - page, g⟩, ⟨at_, many, o⟩, ⟨at_ + many, page + count - at_ - many, g⟩] ∧ rgB o = true := by
  have hm' := mayB_iff.1 hm
  have hg' := rgB_iff.1 hg
  have hn : Nm 0 0 [⟨page, count, g⟩] := ⟨hm'.1, hm'.2.1, by show g ≠ 0; omega, fun _ => by show g ≠ 0; omega, trivial⟩
  unfold prE at he
  unfold prR
  by_cases r1 : rgB o = false
  · rw [if_pos r1] at he; omega
  rw [if_neg r1] at he ⊢
  have ho := rgB_iff.1 (by simpa using r1)
  by_cases r2 : mdE [⟨page, count, g⟩] at_ many ≠ 0
  · rw [if_pos r2] at he; exact absurd he r2
  rw [if_neg r2] at he ⊢
  obtain ⟨w1, w2⟩ := with_spec (page := at_) (count := many) (g := o) hn (by omega) h2
  have e : withL [⟨page, count, g⟩] at_ many o = [⟨page, at_ - page, g⟩, ⟨at_, many, o⟩, ⟨at_ + many, page + count - at_ - many, g⟩] := by
    refine nm_ext w1 ⟨hm'.1, ?_, ?_, fun _ => ?_, ?_, h2, ?_, fun _ => hne, ?_, ?_, ?_, fun _ => Ne.symm hne, trivial⟩ fun q => ?_
    · show 1 ≤ at_ - page; omega
    · show g ≠ 0; omega
    · show g ≠ 0; omega
    · show page + (at_ - page) ≤ at_; omega
    · show o ≠ 0; omega
    · show at_ + many ≤ at_ + many; omega
    · show 1 ≤ page + count - at_ - many; omega
    · show g ≠ 0; omega
    · rw [w2]
      show (if at_ ≤ q ∧ q < at_ + many then o else if page ≤ q ∧ q < page + count then g else 0) = (if page ≤ q ∧ q < page + (at_ - page) then g else if at_ ≤ q ∧ q < at_ + many then o else if at_ + many ≤ q ∧ q < at_ + many + (page + count - at_ - many) then g else 0)
      by_cases a1 : at_ ≤ q ∧ q < at_ + many
      · rw [if_pos a1, if_neg (by omega), if_pos a1]
      · rw [if_neg a1, if_neg a1]
        by_cases a2 : page ≤ q ∧ q < page + count
        · rw [if_pos a2]
          by_cases a3 : page ≤ q ∧ q < page + (at_ - page)
          · rw [if_pos a3]
          · rw [if_neg a3, if_pos (by omega)]
        · rw [if_neg a2, if_neg (by omega), if_neg (by omega)]
  refine ⟨?_, by simpa using r1⟩
  unfold setR
  rw [e]
  simp
end Go.Proofs.YtfoleblcaloeoaaGreatDoor.Ar

namespace Go.Proofs.YtfoleblcaloeoaaGreatDoor.Ar
open Go Go.RowKit

/-! ## Runs in memory -/
def rc (r : Rn) : List Value := [.int .i64 r.p, .int .i64 r.c, .int .u8 r.g]
theorem rc_len : ∀ x, (rc x).length = 3 := fun _ => rfl
abbrev RR := RE rc 3
abbrev SR := SE rc 3 144
theorem rc_one (l : List Rn) : ∀ u ∈ fc rc l, u.oneCell' = true := fun u hu => by
  obtain ⟨r, _, hr⟩ := List.mem_flatMap.1 hu
  simp only [rc, List.mem_cons, List.not_mem_nil, or_false] at hr
  rcases hr with rfl | rfl | rfl <;> rfl
theorem info30 : (Tryz.prog.info? 144).map (fun i => (i.zero, i.size, i.bytes)) = some (some (.agg #[.int .i64 0, .int .i64 0, .int .u8 0]), 3, 24) := by kernel_rfl
theorem RR.cells {w : World} {g off n c : Nat} {l : List Rn} (h : RR w (.slice (some ⟨g, off, none⟩) n c) l) {k : Nat} (hk : k < l.length) :
    w.cell? ⟨g, off + k * 3, none⟩ = some (.int .i64 l[k].p) ∧ w.cell? ⟨g, off + k * 3 + 1, none⟩ = some (.int .i64 l[k].c) ∧ w.cell? ⟨g, off + k * 3 + 2, none⟩ = some (.int .u8 l[k].g) :=
  ⟨by simpa using RE.cell rc_len h hk (j := 0) (by omega) rfl, RE.cell rc_len h hk (j := 1) (by omega) rfl, RE.cell rc_len h hk (j := 2) (by omega) rfl⟩
theorem RR_one (w : World) (p c g : Int) : RR (w.alloc (.cells #[.int .i64 p, .int .i64 c, .int .u8 g] 144)) (.slice (some ⟨w.heap.size, 0, none⟩) 1 1) [⟨p, c, g⟩] := Rd_new w 144 3 1 _ rfl

/-! ## Small ones -/
theorem end_any (p c g : Int) (w : World) (hp : -100000 ≤ p ∧ p ≤ 100000) (hc : -100000 ≤ c ∧ c ≤ 100000) : Calls Tryz.prog 82 #[.agg #[.int .i64 p, .int .i64 c, .int .u8 g]] w fun e w' => e = .returned (.int .i64 (p + c)) ∧ Chg [] w w' := by
  obtain ⟨hp1, hp2⟩ := hp
  obtain ⟨hc1, hc2⟩ := hc
  go_enter Tryz.func82, Tryz.ntmps82
  go_wp2_with fail
  go_ret
  exact ⟨rfl, (Chg.refl _ _).alloc _⟩
theorem may_any (page count : Int) (w : World) : Calls Tryz.prog 100 #[.int .i64 page, .int .i64 count] w fun e w' => e = .returned (.bool (mayB page count)) ∧ w = w' := by
  obtain ⟨b, hb⟩ : ∃ b, mayB page count = b := ⟨_, rfl⟩
  have HB := hide hb
  rw [hb]
  clear hb
  by_cases h1 : 0 ≤ page
  · by_cases h2 : 1 ≤ count
    · by_cases h3 : count ≤ 1024
      · by_cases h4 : page ≤ 1024 - count
        · obtain rfl : b = true := by rw [← HB.out]; simp [mayB, h1, h2, h3, h4]
          go_enter Tryz.func100, Tryz.ntmps100
          go_wp2_with fail
          go_ret
          exact ⟨rfl, rfl⟩
        · obtain rfl : b = false := by rw [← HB.out]; simp [mayB]; omega
          go_enter Tryz.func100, Tryz.ntmps100
          go_wp2_with fail
          go_ret
          exact ⟨rfl, rfl⟩
      · obtain rfl : b = false := by rw [← HB.out]; simp [mayB]; omega
        go_enter Tryz.func100, Tryz.ntmps100
        go_wp2_with fail
        go_ret
        exact ⟨rfl, rfl⟩
    · obtain rfl : b = false := by rw [← HB.out]; simp [mayB]; omega
      go_enter Tryz.func100, Tryz.ntmps100
      go_wp2_with fail
      go_ret
      exact ⟨rfl, rfl⟩
  · obtain rfl : b = false := by rw [← HB.out]; simp [mayB]; omega
    go_enter Tryz.func100, Tryz.ntmps100
    go_wp2_with fail
    go_ret
    exact ⟨rfl, rfl⟩
theorem rightful_any (g : Int) (w : World) : Calls Tryz.prog 120 #[.int .u8 g] w fun e w' => e = .returned (.bool (rgB g)) ∧ w = w' := by
  obtain ⟨b, hb⟩ : ∃ b, rgB g = b := ⟨_, rfl⟩
  have HB := hide hb
  rw [hb]
  clear hb
  by_cases h1 : 1 ≤ g
  · by_cases h2 : g ≤ 3
    · obtain rfl : b = true := by rw [← HB.out]; simp [rgB, h1, h2]
      go_enter Tryz.func120, Tryz.ntmps120
      go_wp2_with fail
      go_ret
      exact ⟨rfl, rfl⟩
    · obtain rfl : b = false := by rw [← HB.out]; simp [rgB]; omega
      go_enter Tryz.func120, Tryz.ntmps120
      go_wp2_with fail
      go_ret
      exact ⟨rfl, rfl⟩
  · obtain rfl : b = false := by rw [← HB.out]; simp [rgB]; omega
    go_enter Tryz.func120, Tryz.ntmps120
    go_wp2_with fail
    go_ret
    exact ⟨rfl, rfl⟩

/-- what is asked of a run that is put -/
structure Okr (r : Rn) : Prop where
  p : -10000 ≤ r.p ∧ r.p ≤ 10000
  c : -10000 ≤ r.c ∧ r.c ≤ 10000
def Okl (l : List Rn) : Prop := ∀ r ∈ l, Okr r
theorem run_append_rn {w : World} {v y : Value} {l m : List Rn} (hv : SR w v l) (hy : RR w y m) (hlen : l.length + m.length ≤ 1000000) (ty : TypeId) :
    ∃ v' w', (Builtin.append_ #[140, 140] ty #[v, y]).run Tryz.prog w = .ok v' w' ∧ SR w' v' (l ++ m) ∧ Chg (own v) w w' ∧ (v'.ownBlock = v.ownBlock ∨ v'.ownBlock = some w.heap.size) := by
  obtain ⟨i30, hi, hz, hi1, hi2⟩ := info_parts info30
  obtain ⟨v', w', h1, h2, h3, h4⟩ := run_append_sl (ty := ty) Tryz.underlying140 hi hz hi1 hi2 rfl hv hy (rc_one m) (by unfold maxLen; omega) (by omega)
  refine ⟨v', w', h1, ?_, h3, h4⟩
  unfold SR SE
  rw [List.length_append, fc_append]
  exact h2
theorem wpList_append_rn {ops : Array Oper} {rest : List Oper} {o : Oper} {a : Act} {w : World} {Q : Exit → Act → World → Prop} (hg : o.guard = none) (s x : Operand)
    (ho : o.op = .call { callee := .builtin .append, args := #[s, x], argTypes := #[140, 140] }) (v y : Value) (hs : a.eval s = v) (hx : a.eval x = y) {l m : List Rn} (hv : SR w v l) (hy : RR w y m) (hlen : l.length + m.length ≤ 1000000)
    (h : ∀ A n c w', Hid (n = (l ++ m).length) → SR w' (.slice A n c) (l ++ m) → Chg (own v) w w' → Grow w v (.slice A n c) → wpList Tryz.prog ops Q rest (a.put o.dst (.slice A n c)) w') :
    wpList Tryz.prog ops Q (o :: rest) a w := by
  obtain ⟨i30, hi, hz, hi1, hi2⟩ := info_parts info30
  refine wpList_append_sl hg s x 140 ho 144 Tryz.underlying140 hi hz hi1 hi2 rfl hs hv hx hy (rc_one m) (by unfold maxLen; omega) (by omega) fun v' w' h2 h3 h4 => ?_
  have h2' : SR w' v' (l ++ m) := by
    unfold SR SE
    rw [List.length_append, fc_append]
    exact h2
  obtain ⟨A, c, rfl⟩ := h2'.form
  exact h A _ c w' rfl h2' h3 (grow_of h4)

set_option maxHeartbeats 1000000 in
/-- put: the cases in which the slice stays as it is -/
theorem put_none {w : World} {v : Value} {l : List Rn} (hv : SR w v l) {r : Rn} (h : r.c < 1 ∨ r.g = 0) :
    Calls Tryz.prog 139 #[v, .agg #[.int .i64 r.p, .int .i64 r.c, .int .u8 r.g]] w fun e w' => e = .returned v ∧ Chg [] w w' := by
  obtain ⟨A, c0, rfl⟩ := hv.form
  obtain ⟨p, c, g⟩ := r
  simp only at h ⊢
  by_cases hc : c < 1
  · go_enter Tryz.func139, Tryz.ntmps139
    go_wp2_with fail
    go_ret
    exact ⟨rfl, (Chg.refl _ _).alloc _⟩
  · obtain rfl : g = 0 := by omega
    go_enter Tryz.func139, Tryz.ntmps139
    go_wp2_with fail
    go_ret
    exact ⟨rfl, (Chg.refl _ _).alloc _⟩
end Go.Proofs.YtfoleblcaloeoaaGreatDoor.Ar

namespace Go.Proofs.YtfoleblcaloeoaaGreatDoor.Ar
open Go Go.RowKit


theorem load_rn {w : World} {g off : Nat} {x y z : Int} (c0 : w.cell? ⟨g, off, none⟩ = some (.int .i64 x)) (c1 : w.cell? ⟨g, off + 1, none⟩ = some (.int .i64 y)) (c2 : w.cell? ⟨g, off + 2, none⟩ = some (.int .u8 z)) : (loadVar 144 ⟨g, off, none⟩).run Tryz.prog w = .ok (.agg #[.int .i64 x, .int .i64 y, .int .u8 z]) w := by
  simp [go_sem, loadVar, c0, c1, c2]
/-- what 'put' leaves -/
def PutP (w : World) (v : Value) (l : List Rn) (e : Ending) (w' : World) : Prop := ∃ A n c, e = .returned (.slice A n c) ∧ SR w' (.slice A n c) l ∧ Chg (own v) w w' ∧ Grow w v (.slice A n c)

theorem RR_two (w : World) (p c g : Int) (T : TypeId) (cs : Array Value) : RR (((w.alloc (.cells cs T)).alloc (.cells #[.int .i64 p, .int .i64 c, .int .u8 g] 144)).drew) (.slice (some ⟨w.heap.size + 1, 0, none⟩) 1 1) [⟨p, c, g⟩] := by
  have := RR_one (w.alloc (.cells cs T)) p c g
  rw [World.size_alloc] at this
  exact Rd.drew this
set_option maxHeartbeats 1000000 in
theorem put_nil {w : World} {v : Value} (hv : SR w v []) {r : Rn} (h : ¬ (r.c < 1 ∨ r.g = 0)) :
    Calls Tryz.prog 139 #[v, .agg #[.int .i64 r.p, .int .i64 r.c, .int .u8 r.g]] w (PutP w v [r]) := by
  obtain ⟨A, c0, rfl⟩ := hv.form
  obtain ⟨p, c, g⟩ := r
  simp only at h ⊢
  obtain ⟨h1, h2⟩ : 1 ≤ c ∧ (g == 0) = false := ⟨by omega, beq_eq_false_iff_ne.2 (by omega)⟩
  clear h
  simp only [List.length_nil]
  go_enter Tryz.func139, Tryz.ntmps139
  go_wp2_with fail
  refine wp_region_t [0,0,0,0,0,0,1,6,0,5,0,0,0,0,0,0,0,1,0,1,0,0] [none, none, none, some (20, true), some (20, true), some (20, true), some (20, true), some (20, true), some (20, true), some (20, true), some (20, true), none, none, some (30, true), some (30, true), some (30, true), some (30, true), some (30, true), some (30, true), some (30, true), some (30, true), none] (fun W => Blk W w.heap.size 144 #[.int .i64 p, .int .i64 c, .int .u8 g]) (by kernel_rfl) (by kernel_rfl) (by kernel_rfl) ?_
  go_wp2_with (first | (at_builtin; refine wpList_append_rn rfl _ _ rfl (.slice A 0 c0) _ rfl rfl (l := []) (m := [⟨p, c, g⟩]) (hv.stay (((Chg.refl _ _).alloc _).alloc _).drew) (RR_two w p c g _ _) (by simp) ?_; intro A9 n9 c9 W9 hn9 hs9 hc9 hg9) | (refine wpG_calc rfl (fun K hK => ?_)) | (refine wpG_skip ?_ ?_; (focus (simp [wantG]; done)); go_simp) | (refine wpG_take ?_ ?_; (focus (simp [wantG]; done))) | (refine wpG_pure (fun K hK => ?_); go_simp; refine hK _ _ ?_; clear hK K) | (refine wpG_deed (by decide) (fun K hK => ?_); go_simp) | (refine wpG_nil ?_))
  go_ret
  have hc : Chg [] w (((w.alloc (.cells #[.int .i64 p, .int .i64 c, .int .u8 g] 144)).alloc (.cells #[.int .i64 p, .int .i64 c, .int .u8 g] 144)).drew) := (((Chg.refl _ _).alloc _).alloc _).drew
  exact ⟨_, _, _, rfl, hs9, hc.then_ hc9, hg9.of_le (by simp; omega)⟩

set_option maxHeartbeats 2000000 in
theorem put_snoc {w : World} {v : Value} {l : List Rn} {x r : Rn} (hv : SR w v (l ++ [x])) (h : ¬ (r.c < 1 ∨ r.g = 0)) (hx : Okr x) (hr : Okr r) (hlen : l.length ≤ 100000) (hj : ¬ (x.e = r.p ∧ x.g = r.g)) :
    Calls Tryz.prog 139 #[v, .agg #[.int .i64 r.p, .int .i64 r.c, .int .u8 r.g]] w (PutP w v (l ++ [x] ++ [r])) := by
  obtain ⟨A, c0, rfl⟩ := hv.form
  obtain ⟨n, hn⟩ : ∃ n, l.length = n := ⟨_, rfl⟩
  have en : (l ++ [x]).length = n + 1 := by simp [hn]
  rw [en] at hv ⊢
  obtain ⟨g0, off, rfl⟩ := SE.addr hv (Nat.succ_pos n)
  obtain ⟨q0, q1, q2⟩ := RR.cells hv.re (k := n) (by omega)
  have ex : (l ++ [x])[n]'(by omega) = x := by subst hn; simp
  rw [ex] at q0 q1 q2
  have Hn := hide hn
  have hgl : g0 < w.heap.size := hv.own_lt g0 (by simp [own, Value.ownBlock])
  have hn2 : n ≤ 100000 := by omega
  clear en ex hn
  obtain ⟨⟨xp1, xp2⟩, xc1, xc2⟩ := hx
  obtain ⟨⟨rp1, rp2⟩, rc1, rc2⟩ := hr
  obtain ⟨p, c, g⟩ := r
  obtain ⟨xp, xc, xg⟩ := x
  simp only at *
  have h1 : 1 ≤ c := by omega
  have h2 : (g == 0) = false := beq_eq_false_iff_ne.2 (by omega)
  have hb : Blk ((w.alloc (.cells #[.int .i64 p, .int .i64 c, .int .u8 g] 144)).drew) w.heap.size 144 #[.int .i64 p, .int .i64 c, .int .u8 g] := (Blk.new w 144 _).drew
  have hc0 : Chg [] w ((w.alloc (.cells #[.int .i64 p, .int .i64 c, .int .u8 g] 144)).drew) := ((Chg.refl _ _).alloc _).drew
  have Hlen : Hid ((l ++ [(⟨xp, xc, xg⟩ : Rn)]).length + [(⟨p, c, g⟩ : Rn)].length ≤ 1000000) := hide (by simp; omega)
  by_cases he : xp + xc = p
  · have he1 : (xp + xc == p) = true := by simpa using he
    have he2 : (xg == g) = false := beq_eq_false_iff_ne.2 (fun e => hj ⟨he, e⟩)
    clear hj h he
    go_enter Tryz.func139, Tryz.ntmps139
    go_wp2_with fail
    refine wp_region_t [0,0,0,0,0,0,1,6,0,5,0,0,0,0,0,0,0,1,0,1,0,0] [none, none, none, some (20, true), some (20, true), some (20, true), some (20, true), some (20, true), some (20, true), some (20, true), some (20, true), none, none, some (30, true), some (30, true), some (30, true), some (30, true), some (30, true), some (30, true), some (30, true), some (30, true), none] (fun W => Blk W w.heap.size 144 #[.int .i64 p, .int .i64 c, .int .u8 g]) (by kernel_rfl) (by kernel_rfl) (by kernel_rfl) ?_
    go_wp2_with (first | fail | (refine wpG_calc rfl (fun K hK => ?_)) | (refine wpG_skip ?_ ?_; (focus (simp [wantG]; done)); go_simp) | (refine wpG_take ?_ ?_; (focus (simp [wantG]; done))) | (refine wpG_pure (fun K hK => ?_); go_simp; refine hK _ _ ?_; clear hK K) | (refine wpG_deed (by decide) (fun K hK => ?_); go_simp) | (refine wpG_nil ?_))
    (refine wpG_keeps hb (fun K hK => ?_)); go_simp; (refine (end_any xp xc xg _ ⟨by omega, by omega⟩ ⟨by omega, by omega⟩).mono ?_); rintro e W1 ⟨rfl, hc1⟩; have hb1 := Blk.chg hb hc1 List.not_mem_nil; (refine hK _ _ hb1 ?_); clear hK K
    have b0 := hb1.cell 0
    have b1 := hb1.cell 1
    have b2 := hb1.cell 2
    simp at b0 b1 b2
    have hvW : SR W1 (.slice (some ⟨g0, off, none⟩) (n + 1) c0) (l ++ [⟨xp, xc, xg⟩]) := (hv.stay hc0).stay hc1
    obtain ⟨q0', q1', q2'⟩ : W1.cell? ⟨g0, off + n * 3, none⟩ = some (.int .i64 xp) ∧ W1.cell? ⟨g0, off + n * 3 + 1, none⟩ = some (.int .i64 xc) ∧ W1.cell? ⟨g0, off + n * 3 + 2, none⟩ = some (.int .u8 xg) := ⟨(hc0.trans hc1 (fun _ h => by cases h)).cell q0 List.not_mem_nil, (hc0.trans hc1 (fun _ h => by cases h)).cell q1 List.not_mem_nil, (hc0.trans hc1 (fun _ h => by cases h)).cell q2 List.not_mem_nil⟩
    clear q0 q1 q2
    go_wp2_with (first | (refine wpG_hload 3 _ rfl rfl (fun w' hw' => load_int Tryz.underlying3 (by simpa using Blk.cell hw' 0)) hb1 ?_; go_simp) | (at_builtin; refine wpList_append_rn rfl _ _ rfl (.slice (some ⟨g0, off, none⟩) (n + 1) c0) _ rfl rfl (hvW.stay ((Chg.refl _ _).alloc _)) (RR_one W1 p c g) Hlen.out ?_; intro A9 n9 c9 W9 hn9 hs9 hc9 hg9) | (refine wpG_calc rfl (fun K hK => ?_)) | (refine wpG_skip ?_ ?_; (focus (simp [wantG]; done)); go_simp) | (refine wpG_take ?_ ?_; (focus (simp [wantG]; done))) | (refine wpG_pure (fun K hK => ?_); go_simp; refine hK _ _ ?_; clear hK K) | (refine wpG_deed (by decide) (fun K hK => ?_); go_simp) | (refine wpG_nil ?_))
    go_ret
    exact ⟨_, _, _, rfl, hs9, (hc0.trans (hc1.alloc _) (fun _ h => by cases h)).then_ hc9, hg9.of_le (by have := hc0.size; have := hc1.size; simp at *; omega)⟩
  · have he1 : (xp + xc == p) = false := by simpa using he
    clear hj h he
    go_enter Tryz.func139, Tryz.ntmps139
    go_wp2_with fail
    refine wp_region_t [0,0,0,0,0,0,1,6,0,5,0,0,0,0,0,0,0,1,0,1,0,0] [none, none, none, some (20, true), some (20, true), some (20, true), some (20, true), some (20, true), some (20, true), some (20, true), some (20, true), none, none, some (30, true), some (30, true), some (30, true), some (30, true), some (30, true), some (30, true), some (30, true), some (30, true), none] (fun W => Blk W w.heap.size 144 #[.int .i64 p, .int .i64 c, .int .u8 g]) (by kernel_rfl) (by kernel_rfl) (by kernel_rfl) ?_
    go_wp2_with (first | fail | (refine wpG_calc rfl (fun K hK => ?_)) | (refine wpG_skip ?_ ?_; (focus (simp [wantG]; done)); go_simp) | (refine wpG_take ?_ ?_; (focus (simp [wantG]; done))) | (refine wpG_pure (fun K hK => ?_); go_simp; refine hK _ _ ?_; clear hK K) | (refine wpG_deed (by decide) (fun K hK => ?_); go_simp) | (refine wpG_nil ?_))
    (refine wpG_keeps hb (fun K hK => ?_)); go_simp; (refine (end_any xp xc xg _ ⟨by omega, by omega⟩ ⟨by omega, by omega⟩).mono ?_); rintro e W1 ⟨rfl, hc1⟩; have hb1 := Blk.chg hb hc1 List.not_mem_nil; (refine hK _ _ hb1 ?_); clear hK K
    have b0 := hb1.cell 0
    have b1 := hb1.cell 1
    have b2 := hb1.cell 2
    simp at b0 b1 b2
    have hvW : SR W1 (.slice (some ⟨g0, off, none⟩) (n + 1) c0) (l ++ [⟨xp, xc, xg⟩]) := (hv.stay hc0).stay hc1
    clear q0 q1 q2
    go_wp2_with (first | (refine wpG_hload 3 _ rfl rfl (fun w' hw' => load_int Tryz.underlying3 (by simpa using Blk.cell hw' 0)) hb1 ?_; go_simp) | (at_builtin; refine wpList_append_rn rfl _ _ rfl (.slice (some ⟨g0, off, none⟩) (n + 1) c0) _ rfl rfl (hvW.stay ((Chg.refl _ _).alloc _)) (RR_one W1 p c g) Hlen.out ?_; intro A9 n9 c9 W9 hn9 hs9 hc9 hg9) | (refine wpG_calc rfl (fun K hK => ?_)) | (refine wpG_skip ?_ ?_; (focus (simp [wantG]; done)); go_simp) | (refine wpG_take ?_ ?_; (focus (simp [wantG]; done))) | (refine wpG_pure (fun K hK => ?_); go_simp; refine hK _ _ ?_; clear hK K) | (refine wpG_deed (by decide) (fun K hK => ?_); go_simp) | (refine wpG_nil ?_))
    go_ret
    exact ⟨_, _, _, rfl, hs9, (hc0.trans (hc1.alloc _) (fun _ h => by cases h)).then_ hc9, hg9.of_le (by have := hc0.size; have := hc1.size; simp at *; omega)⟩

set_option maxHeartbeats 2000000 in
theorem put_join {w : World} {v : Value} {l : List Rn} {x r : Rn} (hv : SR w v (l ++ [x])) (h : ¬ (r.c < 1 ∨ r.g = 0)) (hx : Okr x) (hr : Okr r) (hlen : l.length ≤ 100000) (hj : x.e = r.p ∧ x.g = r.g) :
    Calls Tryz.prog 139 #[v, .agg #[.int .i64 r.p, .int .i64 r.c, .int .u8 r.g]] w (PutP w v (l ++ [⟨x.p, x.c + r.c, x.g⟩])) := by
  obtain ⟨A, c0, rfl⟩ := hv.form
  obtain ⟨n, hn⟩ : ∃ n, l.length = n := ⟨_, rfl⟩
  have en : (l ++ [x]).length = n + 1 := by simp [hn]
  rw [en] at hv ⊢
  obtain ⟨g0, off, rfl⟩ := SE.addr hv (Nat.succ_pos n)
  obtain ⟨q0, q1, q2⟩ := RR.cells hv.re (k := n) (by omega)
  have ex : (l ++ [x])[n]'(by omega) = x := by subst hn; simp
  have e3 : (l ++ [x]).set n ⟨x.p, x.c + r.c, x.g⟩ = l ++ [⟨x.p, x.c + r.c, x.g⟩] := by subst hn; simp
  rw [ex] at q0 q1 q2
  have Hset : Hid (∀ W, SR W (.slice (some ⟨g0, off, none⟩) (n + 1) c0) (l ++ [x]) → SR (W.setCell ⟨g0, off + (n * 3 + 1), none⟩ (.int .i64 (x.c + r.c))) (.slice (some ⟨g0, off, none⟩) (n + 1) c0) (l ++ [⟨x.p, x.c + r.c, x.g⟩])) := hide fun W hW => by
    have := SE.set rc_len hW (k := n) (j := 1) (by omega) (by omega) (u := .int .i64 (x.c + r.c)) (x := ⟨x.p, x.c + r.c, x.g⟩) (by rw [ex]; rfl)
    rw [e3] at this
    exact this
  have Hn := hide hn
  have hgl : g0 < w.heap.size := hv.own_lt g0 (by simp [own, Value.ownBlock])
  have hn2 : n ≤ 100000 := by omega
  have hfz := hv.frozen (off + n * 3 + 1)
  clear en ex hn e3
  obtain ⟨⟨xp1, xp2⟩, xc1, xc2⟩ := hx
  obtain ⟨⟨rp1, rp2⟩, rc1, rc2⟩ := hr
  obtain ⟨p, c, g⟩ := r
  obtain ⟨xp, xc, xg⟩ := x
  simp only at *
  obtain ⟨he, rfl⟩ := hj
  have h1 : 1 ≤ c := by omega
  have h2 : (xg == 0) = false := beq_eq_false_iff_ne.2 (by omega)
  have he1 : (xp + xc == p) = true := by simpa using he
  clear h he
  have hb : Blk ((w.alloc (.cells #[.int .i64 p, .int .i64 c, .int .u8 xg] 144)).drew) w.heap.size 144 #[.int .i64 p, .int .i64 c, .int .u8 xg] := (Blk.new w 144 _).drew
  have hc0 : Chg [] w ((w.alloc (.cells #[.int .i64 p, .int .i64 c, .int .u8 xg] 144)).drew) := ((Chg.refl _ _).alloc _).drew
  go_enter Tryz.func139, Tryz.ntmps139
  go_wp2_with fail
  refine wp_region_t [0,0,0,0,0,0,1,6,0,5,0,0,0,0,0,0,0,1,0,1,0,0] [none, none, none, some (20, true), some (20, true), some (20, true), some (20, true), some (20, true), some (20, true), some (20, true), some (20, true), none, none, some (30, true), some (30, true), some (30, true), some (30, true), some (30, true), some (30, true), some (30, true), some (30, true), none] (fun W => Blk W w.heap.size 144 #[.int .i64 p, .int .i64 c, .int .u8 xg]) (by kernel_rfl) (by kernel_rfl) (by kernel_rfl) ?_
  go_wp2_with (first | fail | (refine wpG_calc rfl (fun K hK => ?_)) | (refine wpG_skip ?_ ?_; (focus (simp [wantG]; done)); go_simp) | (refine wpG_take ?_ ?_; (focus (simp [wantG]; done))) | (refine wpG_pure (fun K hK => ?_); go_simp; refine hK _ _ ?_; clear hK K) | (refine wpG_deed (by decide) (fun K hK => ?_); go_simp) | (refine wpG_nil ?_))
  (refine wpG_keeps hb (fun K hK => ?_)); go_simp; (refine (end_any xp xc xg _ ⟨by omega, by omega⟩ ⟨by omega, by omega⟩).mono ?_); rintro e W1 ⟨rfl, hc1⟩; have hb1 := Blk.chg hb hc1 List.not_mem_nil; (refine hK _ _ hb1 ?_); clear hK K
  have b0 := hb1.cell 0
  have b1 := hb1.cell 1
  have b2 := hb1.cell 2
  simp at b0 b1 b2
  have hc01 := hc0.trans hc1 (fun _ h => by cases h)
  have hvW : SR W1 (.slice (some ⟨g0, off, none⟩) (n + 1) c0) (l ++ [⟨xp, xc, xg⟩]) := hv.stay hc01
  obtain ⟨q0', q1', q2'⟩ : W1.cell? ⟨g0, off + n * 3, none⟩ = some (.int .i64 xp) ∧ W1.cell? ⟨g0, off + n * 3 + 1, none⟩ = some (.int .i64 xc) ∧ W1.cell? ⟨g0, off + n * 3 + 2, none⟩ = some (.int .u8 xg) := ⟨hc01.cell q0 List.not_mem_nil, hc01.cell q1 List.not_mem_nil, hc01.cell q2 List.not_mem_nil⟩
  have hfz1 := hvW.frozen (off + n * 3 + 1)
  clear q0 q1 q2 hfz
  go_wp2_with (first | (refine wpG_hload 3 _ rfl rfl (fun w' hw' => load_int Tryz.underlying3 (by simpa using Blk.cell hw' 0)) hb1 ?_; go_simp) | (refine wpG_calc rfl (fun K hK => ?_)) | (refine wpG_skip ?_ ?_; (focus (simp [wantG]; done)); go_simp) | (refine wpG_take ?_ ?_; (focus (simp [wantG]; done))) | (refine wpG_pure (fun K hK => ?_); go_simp; refine hK _ _ ?_; clear hK K) | (refine wpG_deed (by decide) (fun K hK => ?_); go_simp) | (refine wpG_nil ?_))
  refine wp_region_t [0, 0, 0, 0, 1, 0, 1, 0, 0, 0, 3] [none, none, none, none, none, none, none, none, none, none, none] (fun _ => True) (by kernel_rfl) (by kernel_rfl) (by kernel_rfl) ?_
  go_wp2_with (first | fail | (refine wpG_calc rfl (fun K hK => ?_)) | (refine wpG_skip ?_ ?_; (focus (simp [wantG]; done)); go_simp) | (refine wpG_take ?_ ?_; (focus (simp [wantG]; done))) | (refine wpG_pure (fun K hK => ?_); go_simp; refine hK _ _ ?_; clear hK K) | (refine wpG_deed (by decide) (fun K hK => ?_); go_simp) | (refine wpG_nil ?_))
  go_ret
  have hs := Hset.out _ (hvW.stay (Chg.refl [] W1).drew)
  refine ⟨_, _, _, rfl, hs, (hc01.drew).then_ ((Chg.refl _ _).setCell (.inl (by simp [own, Value.ownBlock])) _), Grow.refl _ _⟩
/-- THE CONTRACT of put -/
theorem put_any {w : World} {v : Value} {l : List Rn} {r : Rn} (hv : SR w v l) (hl : Okl l) (hr : Okr r) (hlen : l.length ≤ 100000) : Calls Tryz.prog 139 #[v, .agg #[.int .i64 r.p, .int .i64 r.c, .int .u8 r.g]] w (PutP w v (putL l r)) := by
  by_cases h : r.c < 1 ∨ r.g = 0
  · rw [putL_none h]
    obtain ⟨A, c0, rfl⟩ := hv.form
    refine (put_none hv h).mono ?_
    rintro e w' ⟨rfl, hc⟩
    exact ⟨_, _, _, rfl, hv.stay hc, hc.up _, Grow.refl _ _⟩
  · rcases List.eq_nil_or_concat l with rfl | ⟨l', x, rfl⟩
    · rw [putL_nil h]
      exact put_nil hv h
    · rw [List.concat_eq_append] at hv hl hlen ⊢
      have hx := hl x (by simp)
      by_cases hj : x.e = r.p ∧ x.g = r.g
      · rw [putL_join h hj]
        exact put_join hv h hx hr (by simp at hlen; omega) hj
      · rw [putL_snoc h hj]
        exact put_snoc hv h hx hr (by simp at hlen; omega) hj
end Go.Proofs.YtfoleblcaloeoaaGreatDoor.Ar

namespace Go.Proofs.YtfoleblcaloeoaaGreatDoor.Ar
open Go Go.RowKit

theorem run_min (ts : Array TypeId) (ty : TypeId) (k k' : IntKind) (x y : Int) (w : World) : (Builtin.min_ ts ty #[.int k x, .int k' y]).run Tryz.prog w = .ok (.int k (min x y)) w := by
  have e : min x y = if y < x then y else x := by split <;> omega
  rw [e]
  simp [Builtin.min_, Builtin.min2]
theorem run_max (ts : Array TypeId) (ty : TypeId) (k k' : IntKind) (x y : Int) (w : World) : (Builtin.max_ ts ty #[.int k x, .int k' y]).run Tryz.prog w = .ok (.int k (max x y)) w := by
  have e : max x y = if x < y then y else x := by split <;> omega
  rw [e]
  simp [Builtin.max_, Builtin.max2]

/-- the area's block: its runs -/
def AMem (w : World) (d : Nat) (l : List Rn) (F : List Nat) : Prop := ∃ v, Blk w d 142 #[v] ∧ SR w v l ∧ (∀ k ∈ d :: own v, k ∈ F) ∧ ∀ k ∈ F, k < w.heap.size
theorem AMem.chg {w w' : World} {d : Nat} {l : List Rn} {F G : List Nat} (h : AMem w d l F) (hc : Chg G w w') (hd : ∀ k ∈ F, k ∉ G) : AMem w' d l F := by
  obtain ⟨v, hb, hs, hF, hlt⟩ := h
  exact ⟨v, hb.chg hc (hd _ (hF _ (List.mem_cons_self ..))), hs.chg hc (fun k hk => hd k (hF k (List.mem_cons_of_mem _ hk))), hF, fun k hk => Nat.lt_of_lt_of_le (hlt k hk) hc.size⟩
theorem AMem.stay {w w' : World} {d : Nat} {l : List Rn} {F : List Nat} (h : AMem w d l F) (hc : Chg [] w w') : AMem w' d l F := h.chg hc (by simp)
theorem AMem.lt {w : World} {d : Nat} {l : List Rn} {F : List Nat} (h : AMem w d l F) : ∀ k ∈ F, k < w.heap.size := h.choose_spec.2.2.2
theorem AMem.mem {w : World} {d : Nat} {l : List Rn} {F : List Nat} (h : AMem w d l F) : d ∈ F := h.choose_spec.2.2.1 _ (List.mem_cons_self ..)
theorem Okl.get {l : List Rn} (h : Okl l) {k : Nat} (hk : k < l.length) : (-10000 ≤ l[k].p ∧ l[k].p ≤ 10000) ∧ -10000 ≤ l[k].c ∧ l[k].c ≤ 10000 := ⟨(h _ (List.getElem_mem hk)).p, (h _ (List.getElem_mem hk)).c⟩
theorem cntL_take {l : List Rn} {k : Nat} (hk : k < l.length) (page count : Int) : cntL (l.take (k + 1)) page count = cntL (l.take k) page count + ovl page count l[k] := by
  unfold cntL
  rw [List.take_succ_eq_append_getElem hk, List.map_append, List.sum_append]
  simp
theorem ovl_bd {page count : Int} (h1 : 0 ≤ count) (h2 : count ≤ 10000) (r : Rn) : 0 ≤ ovl page count r ∧ ovl page count r ≤ 10000 := by unfold ovl; omega
theorem cntL_bd {page count : Int} (h1 : 0 ≤ count) (h2 : count ≤ 10000) : ∀ l : List Rn, 0 ≤ cntL l page count ∧ cntL l page count ≤ 10000 * l.length
  | [] => by simp [cntL]
  | r :: l => by
    have ih := cntL_bd (page := page) h1 h2 l
    have := ovl_bd (page := page) h1 h2 r
    have e : cntL (r :: l) page count = ovl page count r + cntL l page count := by simp [cntL]
    rw [e, List.length_cons]
    omega
theorem Sp.okl {l : List Rn} (h : Sp l) : Okl l := fun r hr => by
  obtain ⟨h1, h2, h3, h4, h5⟩ := h.mem hr
  exact ⟨by omega, by omega⟩

set_option maxHeartbeats 2000000 in
theorem count_at {w : World} {d : Nat} {l : List Rn} {F : List Nat} (hm : AMem w d l F) (hl : Okl l) (hlen : l.length ≤ 1000) (page count : Int) (hp : 0 ≤ page ∧ page ≤ 1024) (hc : 0 ≤ count ∧ count ≤ 1024) :
    Calls Tryz.prog 101 #[.pointer (some ⟨d, 0, none⟩), .int .i64 page, .int .i64 count] w fun e w' => e = .returned (.int .i64 (cntL l page count)) ∧ Chg [] w w' := by
  obtain ⟨v, hb, hs, hF, hlt⟩ := hm
  obtain ⟨A, c0, rfl⟩ := hs.form
  have b0 := hb.cell 0
  simp at b0
  have hdl := hb.lt
  obtain ⟨hp1, hp2⟩ := hp
  obtain ⟨hc1, hc2⟩ := hc
  have Hs := hide hs
  have Hl := hide hl
  have Hb := hide hb
  clear hs hl hb hF hlt
  go_enter Tryz.func101, Tryz.ntmps101
  go_wp2_with fail
  go_loopw [14, 6] (fun i n wr => ∃ (k : Nat) (t : Int), k ≤ l.length ∧ i = .int .i64 k ∧ n = .int .i64 t ∧ Hid (t = cntL (l.take k) page count) ∧ Chg [] w wr) (fun i _ _ => l.length - (intOf i).toNat)
  case atStart => exact ⟨0, 0, by omega, rfl, rfl, hide (by simp [cntL]), Chg.refl _ _⟩
  case round =>
    obtain ⟨k, t, hk, rfl, rfl, ht, hch⟩ := hrel
    have hbt := cntL_bd (page := page) hc1 (by omega : count ≤ 10000) (l.take k)
    rw [← ht.out, List.length_take] at hbt
    obtain ⟨ht1, ht2⟩ : 0 ≤ t ∧ t ≤ 10000000 := by omega
    clear hbt
    by_cases hkt : k < l.length
    · have hsr := Hs.out.stay hch
      obtain ⟨g0, off, rfl⟩ := SE.addr hsr (by omega)
      obtain ⟨q0, q1, q2⟩ := RR.cells hsr.re hkt
      have hgl : g0 < wr.heap.size := hsr.own_lt g0 (by simp [own, Value.ownBlock])
      have hok := Hl.out.get hkt
      have hts := cntL_take hkt page count
      obtain ⟨r, hr⟩ : ∃ r, r = l[k] := ⟨_, rfl⟩
      rw [← hr] at q0 q1 q2 hok hts
      obtain ⟨⟨rp1, rp2⟩, rc1, rc2⟩ := hok
      clear hr hsr
      obtain ⟨p, c, g⟩ := r
      simp only at *
      obtain ⟨m1, hm1⟩ : ∃ m, m = min (p + c) (page + count) := ⟨_, rfl⟩
      obtain ⟨m2, hm2⟩ : ∃ m, m = max p page := ⟨_, rfl⟩
      obtain ⟨m3, hm3⟩ : ∃ m, m = max 0 (m1 - m2) := ⟨_, rfl⟩
      have u1 := fun ts ty w => run_min ts ty .i64 .i64 (p + c) (page + count) w
      have u2 := fun ts ty w => run_max ts ty .i64 .i64 p page w
      have u3 := fun ts ty w => run_max ts ty .i64 .i64 0 (m1 - m2) w
      rw [← hm1] at u1
      rw [← hm2] at u2
      rw [← hm3] at u3
      have hov : m3 = ovl page count ⟨p, c, g⟩ := by rw [hm3, hm1, hm2]; rfl
      obtain ⟨a1, a2⟩ : -100000 ≤ m1 ∧ m1 ≤ 100000 := by omega
      obtain ⟨a3, a4⟩ : -100000 ≤ m2 ∧ m2 ≤ 100000 := by omega
      obtain ⟨a5, a6⟩ : 0 ≤ m3 ∧ m3 ≤ 200000 := by omega
      have Hov : Hid (t + m3 = cntL (l.take (k + 1)) page count) := hide (by rw [hts, ht.out, hov])
      clear hm1 hm2 hm3 hts hov
      go_wp2_with fail
      refine wp_region_t [0, 5, 6, 0, 0, 0, 0, 0, 5, 0, 0, 0, 0, 0, 0] (List.replicate 15 none) (fun W => Blk W wr.heap.size 144 #[.int .i64 p, .int .i64 c, .int .u8 g]) (by kernel_rfl) (by kernel_rfl) (by kernel_rfl) ?_
      have hbx : Blk ((wr.alloc (.cells #[.int .i64 p, .int .i64 c, .int .u8 g] 144)).drew) wr.heap.size 144 #[.int .i64 p, .int .i64 c, .int .u8 g] := (Blk.new wr 144 _).drew
      go_wp2_with (first | (refine wpG_hload 144 _ rfl rfl (fun w' hw' => load_rn (by simpa using Blk.cell hw' 0) (by simpa using Blk.cell hw' 1) (by simpa using Blk.cell hw' 2)) hbx ?_; go_simp) | (refine wpG_calc rfl (fun K hK => ?_)) | (refine wpG_skip ?_ ?_; (focus (simp [wantG]; done)); go_simp) | (refine wpG_take ?_ ?_; (focus (simp [wantG]; done))) | (refine wpG_pure (fun K hK => ?_); go_simp; refine hK _ _ ?_; clear hK K) | (refine wpG_deed (by decide) (fun K hK => ?_); go_simp) | (refine wpG_nil ?_))
      (refine wpG_keeps hbx (fun K hK => ?_))
      go_simp
      refine (end_any p c g _ ⟨by omega, by omega⟩ ⟨by omega, by omega⟩).mono ?_
      rintro e W1 ⟨rfl, hc1⟩
      have hb1 := Blk.chg hbx hc1 List.not_mem_nil
      refine hK _ _ hb1 ?_
      clear hK K
      go_wp2_with (first | (refine wpG_hload 3 _ rfl rfl (fun w' hw' => load_int Tryz.underlying3 (by simpa using Blk.cell hw' 0)) hb1 ?_; go_simp) | (refine wpG_calc rfl (fun K hK => ?_)) | (refine wpG_skip ?_ ?_; (focus (simp [wantG]; done)); go_simp) | (refine wpG_take ?_ ?_; (focus (simp [wantG]; done))) | (refine wpG_pure (fun K hK => ?_); go_simp; refine hK _ _ ?_; clear hK K) | (refine wpG_deed (by decide) (fun K hK => ?_); go_simp) | (refine wpG_nil ?_))
      go_roundw
      case rel => exact ⟨k + 1, t + m3, by omega, by go_num, rfl, Hov, ((hch.alloc _).drew).stay hc1⟩
      case measure => simp [intOf]; omega
    · have ek : l.take k = l := List.take_of_length_le (by omega)
      rw [ek] at ht
      clear ek
      go_wp2_with fail
      go_ret
      refine ⟨?_, hch⟩
      show Ending.returned (.int .i64 t) = _
      rw [ht.out]
end Go.Proofs.YtfoleblcaloeoaaGreatDoor.Ar

namespace Go.Proofs.YtfoleblcaloeoaaGreatDoor.Ar
open Go Go.RowKit

/-- what 'with' has while it works: its boxes, all new: the page, the number, the rights, the runs, and whether the range is in -/
structure WSt (w W : World) (bp bc bg b0 bd : Nat) (page count g : Int) (V : Value) (l : List Rn) (dn : Bool) : Prop where
  chg : Chg [] w W
  p : Blk W bp 3 #[.int .i64 page]
  c : Blk W bc 3 #[.int .i64 count]
  g : Blk W bg 5 #[.int .u8 g]
  bl : Blk W b0 140 #[V]
  d : Blk W bd 4 #[.bool dn]
  s : SR W V l
  nl : w.heap.size ≤ b0
  nd : w.heap.size ≤ bd
  nV : ∀ k ∈ own V, w.heap.size ≤ k
section
variable {w W W' : World} {bp bc bg bl bd : Nat} {page count g : Int} {V V' : Value} {l l' : List Rn} {dn : Bool}
theorem WSt.stay (h : WSt w W bp bc bg bl bd page count g V l dn) (hc : Chg [] W W') : WSt w W' bp bc bg bl bd page count g V l dn :=
  { h with chg := h.chg.stay hc, p := h.p.chg hc (by simp), c := h.c.chg hc (by simp), g := h.g.chg hc (by simp), bl := h.bl.chg hc (by simp), d := h.d.chg hc (by simp), s := h.s.stay hc }
theorem blk_off {e : TypeId} {size n : Nat} {v : Value} {cs : List Value} {b : Nat} {T : TypeId} {xs : Array Value} (h : Sl W e size v n cs) (hb : Blk W b T xs) (hT : T ≠ e) : b ∉ own v := fun hk => by
  obtain ⟨cur, hb'⟩ := Sl.blk h hk
  exact hb.ne_ hb' hT rfl
/-- other runs, in the box -/
theorem WSt.put (h : WSt w W bp bc bg bl bd page count g V l dn) (hs : SR W' V' l') (hc : Chg (own V) W W') (hg : Grow W V V') : WSt w (W'.setCell ⟨bl, 0, none⟩ V') bp bc bg bl bd page count g V' l' dn := by
  have hp := h.p.chg hc (blk_off h.s h.p (by decide))
  have hcc := h.c.chg hc (blk_off h.s h.c (by decide))
  have hgg := h.g.chg hc (blk_off h.s h.g (by decide))
  have hll := h.bl.chg hc (blk_off h.s h.bl (by decide))
  have hdd := h.d.chg hc (blk_off h.s h.d (by decide))
  refine { chg := (h.chg.trans hc (fun k hk => .inr (h.nV k hk))).setCell (.inr h.nl) _, p := hp.far (hp.ne_ hll (by decide)) _, c := hcc.far (hcc.ne_ hll (by decide)) _, g := hgg.far (hgg.ne_ hll (by decide)) _, bl := ?_, d := hdd.far (hdd.ne_ hll (by decide)) _, s := Sl.far hs (p := ⟨bl, 0, none⟩) (fun e => blk_off hs hll (by decide) (own_mem.2 e)) _, nl := h.nl, nd := h.nd, nV := fun k hk => ?_ }
  · have := hll.set_ 0 V'
    simpa using this
  · rcases hg k hk with h' | h'
    · exact h.nV k h'
    · exact Nat.le_trans h.chg.size h'
theorem WSt.mark (h : WSt w W bp bc bg bl bd page count g V l dn) : WSt w (W.setCell ⟨bd, 0, none⟩ (.bool true)) bp bc bg bl bd page count g V l true where
  chg := h.chg.setCell (.inr h.nd) _
  p := h.p.far (h.p.ne_ h.d (by decide)) _
  c := h.c.far (h.c.ne_ h.d (by decide)) _
  g := h.g.far (h.g.ne_ h.d (by decide)) _
  bl := h.bl.far (h.bl.ne_ h.d (by decide)) _
  d := by have := h.d.set_ 0 (.bool true); simpa using this
  s := Sl.far h.s (p := ⟨bd, 0, none⟩) (fun e => blk_off h.s h.d (by decide) (own_mem.2 e)) _
  nl := h.nl
  nd := h.nd
  nV := h.nV
theorem WSt.cells (h : WSt w W bp bc bg bl bd page count g V l dn) : W.cell? ⟨bp, 0, none⟩ = some (.int .i64 page) ∧ W.cell? ⟨bc, 0, none⟩ = some (.int .i64 count) ∧ W.cell? ⟨bg, 0, none⟩ = some (.int .u8 g) ∧ W.cell? ⟨bl, 0, none⟩ = some V ∧ W.cell? ⟨bd, 0, none⟩ = some (.bool dn) ∧ W.frozen? ⟨bl, 0, none⟩ = false ∧ W.frozen? ⟨bd, 0, none⟩ = false := by
  have a := h.p.cell 0
  have b := h.c.cell 0
  have c := h.g.cell 0
  have d := h.bl.cell 0
  have e := h.d.cell 0
  simp at a b c d e
  exact ⟨a, b, c, d, e, h.bl.frozen 0, h.d.frozen 0⟩
/-- behind a put: the box is as it was -/
theorem WSt.kept (h : WSt w W bp bc bg bl bd page count g V l dn) (hc : Chg (own V) W W') : W'.cell? ⟨bl, 0, none⟩ = some V ∧ W'.frozen? ⟨bl, 0, none⟩ = false ∧ W'.cell? ⟨bd, 0, none⟩ = some (.bool dn) ∧ W'.frozen? ⟨bd, 0, none⟩ = false ∧ bl ≠ bd := by
  have hll := h.bl.chg hc (blk_off h.s h.bl (by decide))
  have hdd := h.d.chg hc (blk_off h.s h.d (by decide))
  have a := hll.cell 0
  have b := hdd.cell 0
  simp at a b
  exact ⟨a, hll.frozen 0, b, hdd.frozen 0, hll.ne_ hdd (by decide)⟩

set_option maxHeartbeats 1000000 in
theorem in_any (h : WSt w W bp bc bg bl bd page count g V l dn) (hl : Okl l) (hlen : l.length ≤ 100000) (hr : Okr ⟨page, count, g⟩) :
    Calls Tryz.prog 138 #[.pointer (some ⟨bd, 0, none⟩), .pointer (some ⟨bl, 0, none⟩), .pointer (some ⟨bp, 0, none⟩), .pointer (some ⟨bc, 0, none⟩), .pointer (some ⟨bg, 0, none⟩)] W fun e w' => e = .returned (.tuple #[]) ∧ (∃ A n c, WSt w w' bp bc bg bl bd page count g (.slice A n c) (if dn then l else putL l ⟨page, count, g⟩) true ∧ Grow W V (.slice A n c)) ∧ Chg (bl :: bd :: own V) W w' := by
  obtain ⟨x0, x1, x2, x3, x4, f3, f4⟩ := h.cells
  obtain ⟨A0, c0, rfl⟩ := h.s.form
  cases dn with
  | true =>
    have H := hide h
    clear h
    go_enter Tryz.func138, Tryz.ntmps138
    go_wp2_with fail
    go_end0
    exact ⟨rfl, ⟨_, _, _, by simpa using H.out.mark, Grow.refl _ _⟩, (Chg.refl _ _).setCell (.inl (by simp)) _⟩
  | false =>
    have HP := hide (put_any h.s hl hr hlen)
    have H := hide h
    clear h
    go_enter Tryz.func138, Tryz.ntmps138
    go_wp2_with (go_at_call 139; refine HP.out.mono ?_; rintro e W1 ⟨A1, n1, c1, rfl, hs1, hc1, hg1⟩; have hk1 := H.out.kept hc1; obtain ⟨y1, y2, y3, y4, y5⟩ := hk1)
    go_end0
    exact ⟨rfl, ⟨_, _, _, by simpa using (H.out.put hs1 hc1 hg1).mark, hg1⟩, ((hc1.mono (fun _ hk => .inl (List.mem_cons_of_mem _ (List.mem_cons_of_mem _ hk)))).setCell (.inl (by simp)) _).setCell (.inl (by simp)) _⟩
end
end Go.Proofs.YtfoleblcaloeoaaGreatDoor.Ar
