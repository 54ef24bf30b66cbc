import Derived.Test.YtmgjknlpcnakiaaArR
import Derived.Deep.LoopGhost
namespace Go.Proofs.Ytmgjknlpcnakiaa
open Go Go.RowKit Go.Shelf

/-! ## The runs one behind another, plain -/
def lst (l : List Rn) (k : Nat) : Rn := if k = 0 then ⟨0, 0, 0⟩ else l[k - 1]?.getD ⟨0, 0, 0⟩
theorem lst_succ {l : List Rn} {k : Nat} (hk : k < l.length) : lst l (k + 1) = l[k] := by simp [lst, hk]
theorem fin_take {l : List Rn} {k : Nat} (hk : k ≤ l.length) : fin 0 0 (l.take k) = ((lst l k).e, (lst l k).g) := by
  cases k with
  | zero => simp [fin, lst, Rn.e]
  | succ k =>
    rw [List.take_succ_eq_append_getElem (by omega), fin_snoc, lst_succ (by omega)]
theorem rt_hi_app {lo g : Int} {a b : List Rn} (h : Nm lo g (a ++ b)) {q : Int} (hq : (fin lo g a).1 ≤ q) : rt (a ++ b) q = rt b q := by
  induction a generalizing lo g with
  | nil => rfl
  | cons x a ih =>
    obtain ⟨h1, h2, h3, h4, h5⟩ := h
    have ha : Nm x.e x.g a := by
      have cut : ∀ (l m : List Rn) {lo g : Int}, Nm lo g (l ++ m) → Nm lo g l := fun l => by
        induction l with
        | nil => intro m lo g _; exact trivial
        | cons a l ih => intro m lo g h; exact ⟨h.1, h.2.1, h.2.2.1, h.2.2.2.1, ih m h.2.2.2.2⟩
      exact cut _ _ h5
    have h6 := fin_lo ha
    have h7 : (fin x.e x.g a).1 ≤ q := hq
    show (if x.p ≤ q ∧ q < x.e then x.g else rt (a ++ b) q) = _
    rw [if_neg (by omega)]
    exact ih h5 hq
theorem nm_at {l : List Rn} (h : Nm 0 0 l) {k : Nat} (hk : k < l.length) :
    (lst l k).e ≤ l[k].p ∧ (l[k].p = (lst l k).e → l[k].g ≠ (lst l k).g) ∧ ∀ q, (lst l k).e ≤ q → q < l[k].e → rt l q = if l[k].p ≤ q then l[k].g else 0 := by
  have e : l = l.take k ++ (l[k] :: l.drop (k + 1)) := by rw [← List.drop_eq_getElem_cons hk, List.take_append_drop]
  have hn := h
  rw [e] at hn
  have hf := fin_take (l := l) (k := k) (by omega)
  have split : ∀ (a b : List Rn) {lo g : Int}, Nm lo g (a ++ b) → Nm (fin lo g a).1 (fin lo g a).2 b := fun a => by
    induction a with
    | nil => intro b lo g h; exact h
    | cons x a ih => intro b lo g h; exact ih b h.2.2.2.2
  have hb := split _ _ hn
  rw [hf] at hb
  obtain ⟨b1, b2, b3, b4, b5⟩ := hb
  refine ⟨b1, b4, fun q hq1 hq2 => ?_⟩
  have hr := rt_hi_app hn (q := q) (by rw [hf]; exact hq1)
  rw [← e] at hr
  rw [hr]
  show (if l[k].p ≤ q ∧ q < l[k].e then l[k].g else rt (l.drop (k + 1)) q) = _
  by_cases hp : l[k].p ≤ q
  · rw [if_pos ⟨hp, hq2⟩, if_pos hp]
  · rw [if_neg (fun h => hp h.1), if_neg hp, rt_lo b5 hq2]
theorem lst_bd {l : List Rn} (h : Sp l) {k : Nat} (hk : k ≤ l.length) : 0 ≤ (lst l k).p ∧ (lst l k).p ≤ 1024 ∧ 0 ≤ (lst l k).c ∧ (lst l k).c ≤ 1024 ∧ 0 ≤ (lst l k).g ∧ (lst l k).g ≤ 3 := by
  cases k with
  | zero => simp [lst]
  | succ k =>
    rw [lst_succ (by omega)]
    have := h.mem (List.getElem_mem (show k < l.length by omega))
    omega

/-! ## A loop in which the marks grow -/
def setAll (T : Array Value) : List Nat → List Value → Array Value
  | i :: is, v :: vs => setAll (T.setIfInBounds i v) is vs
  | _, _ => T
theorem wp_loop_marks {c : Code} {Q : Exit → Act → World → Prop} {T : Array Value} {w : World} {ds0 : List Nat} (slots : List Nat) (rel : Nat → List Value → List Nat → World → Prop) (n0 : Nat) (us0 : List Value)
    (h0 : rel n0 us0 ds0 w) (hT : T = setAll T slots us0) (hM : Marks ds0 w)
    (round : ∀ n us ds w, rel n us ds w → Marks ds w → c.wp Try.prog (Exit.then (fun a' w' => ∃ n' us' ds', n' < n ∧ rel n' us' ds' w' ∧ Marks ds' w' ∧ a' = { tmps := setAll T slots us', defers := ds'.map mark }) Q) { tmps := setAll T slots us, defers := ds.map mark } w) :
    (Code.loop c).wp Try.prog Q { tmps := T, defers := ds0.map mark } w := by
  refine wp_loop_ghost (fun n a w => ∃ us ds, rel n us ds w ∧ Marks ds w ∧ a = { tmps := setAll T slots us, defers := ds.map mark }) n0 ⟨us0, ds0, h0, hM, by rw [← hT]⟩ ?_
  rintro n a w ⟨us, ds, hr, hm, rfl⟩
  refine wp_mono (round n us ds w hr hm) ?_
  intro e a' w' hq
  cases e with
  | normal =>
    obtain ⟨n', us', ds', h1, h2, h3, h4⟩ := hq
    exact ⟨n', h1, us', ds', h2, h3, h4⟩
  | exit id => exact hq
  | goto l => exact hq
  | ret => exact hq
  | panic ch => exact hq
  | outgrown => exact hq
/-- THE RULE of a loop that watches runs: the last one, how many, and the page behind it -/
theorem wp_watch {g : Operand} {p0 q0 : Nat} {assign body : Code} {Q : Exit → Act → World → Prop} {a : Act} {w : World} {bx d : Nat} {l : List Rn} {F : List Nat} {b5 b6 b7 : Nat}
    (hg : a.eval g = .func (.func 26) #[] #[.pointer (some ⟨bx, 0, none⟩)]) (hbx : Blk w bx 23 #[.pointer (some ⟨d, 0, none⟩)]) (hm : AMem w d l F) (hlen : l.length ≤ 1000)
    (h5 : Blk w b5 30 #[.int .i64 (lst l 0).p, .int .i64 (lst l 0).c, .int .u8 (lst l 0).g]) (h6 : Blk w b6 3 #[.int .i64 ((0 : Nat) : Int)]) (h7 : Blk w b7 3 #[.int .i64 (lst l 0).e])
    (hassign : ∀ (j : Nat) (r : Rn) (W : World) (K : Act → World → Prop), K { tmps := (a.tmps.setIfInBounds p0 (rv r)).setIfInBounds q0 (.pointer (some ⟨W.heap.size, 0, none⟩)), defers := [] } (W.alloc (.cells #[.int .i64 r.p, .int .i64 r.c, .int .u8 r.g] 30)) →
      assign.wpIn (Fence.wide.inRound j) 4 Try.prog (Exit.then K (fun _ _ _ => False)) { tmps := a.tmps.setIfInBounds p0 (rv r), defers := [] } W)
    (hbody : ∀ (j B k : Nat) (hk : k < l.length) (W : World) (Q' : Exit → Act → World → Prop), ¬ LetsOut Q' → Chg [b5, b6, b7] w W → Blk W b5 30 #[.int .i64 (lst l k).p, .int .i64 (lst l k).c, .int .u8 (lst l k).g] → Blk W b6 3 #[.int .i64 (k : Int)] → Blk W b7 3 #[.int .i64 (lst l k).e] →
      Blk W B 30 #[.int .i64 l[k].p, .int .i64 l[k].c, .int .u8 l[k].g] → w.heap.size ≤ B →
      (∀ a' W', Chg [b5, b6, b7] W W' → Blk W' b5 30 #[.int .i64 l[k].p, .int .i64 l[k].c, .int .u8 l[k].g] → Blk W' b6 3 #[.int .i64 ((k + 1 : Nat) : Int)] → Blk W' b7 3 #[.int .i64 l[k].e] → Q' .normal a' W') →
      body.wpIn (Fence.wide.inRound j) 4 Try.prog Q' { tmps := (a.tmps.setIfInBounds p0 (rv l[k])).setIfInBounds q0 (.pointer (some ⟨B, 0, none⟩)), defers := [] } W)
    (hdone : ∀ D W, w.heap.size ≤ D → W.heap[D]? = some (.deferred (some [])) → Blk W b6 3 #[.int .i64 (l.length : Int)] → Chg [b5, b6, b7] w W → Q .normal { a with defers := mark D :: a.defers } W) :
    (Code.rangeFunc g #[p0] assign body).wp Try.prog Q a w := by
  have hlt : ∀ x ∈ [b5, b6, b7], x < w.heap.size := fun x hx => by
    simp only [List.mem_cons, List.not_mem_nil, or_false] at hx
    rcases hx with rfl | rfl | rfl
    · exact h5.lt
    · exact h6.lt
    · exact h7.lt
  have hIst : ∀ (N : List Nat) (k : Nat) (W W' : World), (Chg [b5, b6, b7] w W ∧ (∀ b ∈ N, w.heap.size ≤ b ∧ b < W.heap.size) ∧ Blk W b5 30 #[.int .i64 (lst l k).p, .int .i64 (lst l k).c, .int .u8 (lst l k).g] ∧ Blk W b6 3 #[.int .i64 (k : Int)] ∧ Blk W b7 3 #[.int .i64 (lst l k).e]) → Chg N W W' →
      (Chg [b5, b6, b7] w W' ∧ (∀ b ∈ N, w.heap.size ≤ b ∧ b < W'.heap.size) ∧ Blk W' b5 30 #[.int .i64 (lst l k).p, .int .i64 (lst l k).c, .int .u8 (lst l k).g] ∧ Blk W' b6 3 #[.int .i64 (k : Int)] ∧ Blk W' b7 3 #[.int .i64 (lst l k).e]) := by
    rintro N k W W' ⟨hc, hN, i5, i6, i7⟩ hch
    have hne : ∀ x ∈ [b5, b6, b7], x ∉ N := fun x hx h => by have := hlt x hx; have := (hN x h).1; omega
    exact ⟨hc.trans hch (fun b hb => .inr (hN b hb).1), fun b hb => ⟨(hN b hb).1, Nat.lt_of_lt_of_le (hN b hb).2 hch.size⟩, i5.chg hch (hne _ (by simp)), i6.chg hch (hne _ (by simp)), i7.chg hch (hne _ (by simp))⟩
  refine wp_range hg hbx hm hlen
    (fun N k W => Chg [b5, b6, b7] w W ∧ (∀ b ∈ N, w.heap.size ≤ b ∧ b < W.heap.size) ∧ Blk W b5 30 #[.int .i64 (lst l k).p, .int .i64 (lst l k).c, .int .u8 (lst l k).g] ∧ Blk W b6 3 #[.int .i64 (k : Int)] ∧ Blk W b7 3 #[.int .i64 (lst l k).e])
    (fun _ _ _ => False)
    (fun N k a' W => ∃ (hk : k < l.length) (B : Nat), a' = { tmps := (a.tmps.setIfInBounds p0 (rv l[k])).setIfInBounds q0 (.pointer (some ⟨B, 0, none⟩)), defers := [] } ∧ Blk W B 30 #[.int .i64 l[k].p, .int .i64 l[k].c, .int .u8 l[k].g] ∧ B ∉ N ∧ w.heap.size ≤ B ∧
      (Chg [b5, b6, b7] w W ∧ (∀ b ∈ N, w.heap.size ≤ b ∧ b < W.heap.size) ∧ Blk W b5 30 #[.int .i64 (lst l k).p, .int .i64 (lst l k).c, .int .u8 (lst l k).g] ∧ Blk W b6 3 #[.int .i64 (k : Int)] ∧ Blk W b7 3 #[.int .i64 (lst l k).e]))
    ?_ hIst (fun _ _ _ _ h => h.elim) ?_ ?_ ?_ ?_ (fun _ _ _ _ _ _ h => h.elim)
  · intro N W hN hc
    exact ⟨hc.up _, hN, h5.chg hc (by simp), h6.chg hc (by simp), h7.chg hc (by simp)⟩
  · rintro N k a' W W' ⟨hk, B, rfl, hB, hBN, hBw, hi⟩ hch
    exact ⟨hk, B, rfl, hB.chg hch hBN, hBN, hBw, hIst N k W W' hi hch⟩
  · rintro j N k W K hk hi hK
    refine hassign j l[k] W K (hK _ _ ⟨hk, _, rfl, Blk.new W 30 _, fun h => by have := (hi.2.1 _ h).2; omega, hi.1.size, hIst N k W _ hi (((Chg.refl [] W).alloc _).up N)⟩ fun b hb => ?_)
    exact Below.heap_alloc W _ b (hi.2.1 b hb).2
  · rintro j N k a' W hk' ⟨hk, B, rfl, hB, hBN, hBw, hc, hN, i5, i6, i7⟩
    refine hbody j B k hk W _ (fun ⟨_, _, h⟩ => h) hc i5 i6 i7 hB hBw fun a'' W' hc' j5 j6 j7 => ?_
    refine ⟨fun x hx => hc'.block x (hN x hx).2 (fun h => by have := hlt x h; have := (hN x hx).1; omega), hc.and_ hc', fun x hx => ⟨(hN x hx).1, Nat.lt_of_lt_of_le (hN x hx).2 hc'.size⟩, ?_, j6, ?_⟩
    · rw [lst_succ hk]; exact j5
    · rw [lst_succ hk]; exact j7
  · rintro N D W hD hDw ⟨hc, hN, i5, i6, i7⟩ hdf
    exact hdone D W hDw hdf i6 hc
end Go.Proofs.Ytmgjknlpcnakiaa
