/- The magazine pair's methods, each by one contract over lists. -/
import Derived.Test.YtbmdcfeiecmlpaaRows
import Derived.Test.YtbmdcfeiecmlpaaText
import Derived.Test.YtbmdcfeiecmlpaaMem
namespace Go.Proofs.Ytbmdcfeiecmlpaa
open Go Go.RowKit

/-! ## Objects and slices of them -/

abbrev Ob := Int × Int
def oc (l : List Ob) : List Value := l.flatMap fun o => [.int .i64 o.1, .int .i64 o.2]
theorem oc_nil : oc [] = [] := rfl
theorem oc_cons (o : Ob) (l : List Ob) : oc (o :: l) = .int .i64 o.1 :: .int .i64 o.2 :: oc l := rfl
theorem oc_append (l m : List Ob) : oc (l ++ m) = oc l ++ oc m := by simp [oc]
theorem oc_length (l : List Ob) : (oc l).length = l.length * 2 := by
  induction l with
  | nil => rfl
  | cons o l ih => rw [oc_cons]; simp only [List.length_cons, ih]; omega
theorem oc_take (l : List Ob) (k : Nat) : (oc l).take (k * 2) = oc (l.take k) := by
  induction l generalizing k with
  | nil => simp [oc]
  | cons o l ih =>
    cases k with
    | zero => simp [oc]
    | succ k => rw [oc_cons, show (k + 1) * 2 = k * 2 + 1 + 1 by omega, List.take_succ_cons, List.take_succ_cons, ih, List.take_succ_cons, oc_cons]
theorem oc_drop (l : List Ob) (k : Nat) : (oc l).drop (k * 2) = oc (l.drop k) := by
  induction l generalizing k with
  | nil => simp [oc]
  | cons o l ih =>
    cases k with
    | zero => simp
    | succ k => rw [oc_cons, show (k + 1) * 2 = k * 2 + 1 + 1 by omega, List.drop_succ_cons, List.drop_succ_cons, ih, List.drop_succ_cons]
theorem oc_get0 (l : List Ob) (k : Nat) (h : k < l.length) : (oc l)[k * 2]? = some (.int .i64 l[k].1) := by
  induction l generalizing k with
  | nil => simp at h
  | cons o l ih =>
    cases k with
    | zero => rfl
    | succ k =>
      rw [oc_cons, show (k + 1) * 2 = k * 2 + 1 + 1 by omega, List.getElem?_cons_succ, List.getElem?_cons_succ, ih k (by simpa using h)]
      rfl
theorem oc_get1 (l : List Ob) (k : Nat) (h : k < l.length) : (oc l)[k * 2 + 1]? = some (.int .i64 l[k].2) := by
  induction l generalizing k with
  | nil => simp at h
  | cons o l ih =>
    cases k with
    | zero => rfl
    | succ k =>
      rw [oc_cons, show (k + 1) * 2 + 1 = (k * 2 + 1) + 1 + 1 by omega, List.getElem?_cons_succ, List.getElem?_cons_succ, ih k (by simpa using h)]
      rfl
theorem oc_one (l : List Ob) : ∀ u ∈ oc l, u.oneCell' = true := by
  induction l with
  | nil => intro u h; cases h
  | cons o l ih =>
    intro u h
    rw [oc_cons] at h
    rcases List.mem_cons.1 h with rfl | h
    · rfl
    · rcases List.mem_cons.1 h with rfl | h
      · rfl
      · exact ih u h
theorem oc_inj : ∀ {l m : List Ob}, oc l = oc m → l = m
  | [], [], _ => rfl
  | [], _ :: _, h => by cases h
  | _ :: _, [], h => by cases h
  | o :: l, p :: m, h => by
    rw [oc_cons, oc_cons] at h
    injection h with h1 h
    injection h with h2 h
    injection h1 with _ h1
    injection h2 with _ h2
    rw [oc_inj h, show o = p from Prod.ext h1 h2]

/-- reads as objects -/
def RO (w : World) (v : Value) (l : List Ob) : Prop := Rd w 2 v l.length (oc l)
/-- a slice of objects of a call's own -/
def SO (w : World) (v : Value) (l : List Ob) : Prop := Sl w 28 2 v l.length (oc l)
theorem SO.ro {w : World} {v : Value} {l : List Ob} (h : SO w v l) : RO w v l := Sl.rd h
theorem SO.form {w : World} {v : Value} {l : List Ob} (h : SO w v l) : ∃ A c, v = .slice A l.length c := Sl.form h
theorem RO.form {w : World} {v : Value} {l : List Ob} (h : RO w v l) : ∃ A c, v = .slice A l.length c := Rd.form h
theorem RO.at_ {w : World} {v : Value} {l : List Ob} (h : RO w v l) {k : Nat} (hk : k < l.length) :
    ∃ g off c, v = .slice (some ⟨g, off, none⟩) l.length c ∧ l.length ≤ c ∧ w.cell? ⟨g, off + k * 2, none⟩ = some (.int .i64 l[k].1) ∧ w.cell? ⟨g, off + k * 2 + 1, none⟩ = some (.int .i64 l[k].2) := by
  obtain ⟨g, off, c, e, hc, hat⟩ := Rd.at_ h hk
  obtain ⟨u, hu, h0⟩ := hat 0 (by omega)
  obtain ⟨u', hu', h1⟩ := hat 1 (by omega)
  rw [Nat.add_zero, oc_get0 l k hk] at hu
  rw [oc_get1 l k hk] at hu'
  cases hu; cases hu'
  exact ⟨g, off, c, e, hc, by simpa using h0, h1⟩

theorem info28 : (Try.prog.info? 28).map (fun i => (i.zero, i.size, i.bytes)) = some (some (.agg #[.int .i64 0, .int .i64 0]), 2, 16) := by kernel_rfl

/-! ## The pair in memory -/

def PMem (w : World) (p : Nat) (r : Nat) (a b : List Ob) (F : List Nat) : Prop :=
  ∃ v0 v1, Blk w p 59 #[.int .i64 r, v0, v1] ∧ SO w v0 a ∧ SO w v1 b ∧
    p ∈ F ∧ (∀ k, v0.ownBlock = some k → k ∈ F) ∧ (∀ k, v1.ownBlock = some k → k ∈ F) ∧ (∀ k, v0.ownBlock = some k → v1.ownBlock ≠ some k) ∧ (∀ k ∈ F, k < w.heap.size)

theorem SO.ne {w : World} {v : Value} {l : List Ob} (h : SO w v l) {p : Nat} {t : TypeId} {cs : Array Value} (hb : Blk w p t cs) (ht : t ≠ 28) : v.ownBlock ≠ some p := by
  intro e
  obtain ⟨_, ⟨rfl, _⟩ | ⟨g, off, cap, cur, rfl, hg, _⟩⟩ := h
  · cases e
  · simp only [Value.ownBlock, Option.some.injEq] at e
    subst e
    exact hg.ne_ hb (Ne.symm ht) rfl

theorem PMem.chg {w w' : World} {p r : Nat} {a b : List Ob} {F G : List Nat} (h : PMem w p r a b F) (hc : Chg G w w') (hd : ∀ k ∈ F, k ∉ G) : PMem w' p r a b F := by
  obtain ⟨v0, v1, hb, h0, h1, hp, f0, f1, hne, hlt⟩ := h
  exact ⟨v0, v1, hb.chg hc (hd _ hp), h0.chg hc (fun k hk => hd _ (f0 k hk)), h1.chg hc (fun k hk => hd _ (f1 k hk)), hp, f0, f1, hne, fun k hk => Nat.lt_of_lt_of_le (hlt k hk) hc.size⟩
theorem PMem.lt {w : World} {p r : Nat} {a b : List Ob} {F : List Nat} (h : PMem w p r a b F) : p < w.heap.size := by
  obtain ⟨v0, v1, hb, _⟩ := h
  exact hb.lt
theorem PMem.more {w : World} {p r : Nat} {a b : List Ob} {F G : List Nat} (h : PMem w p r a b F) (hd : ∀ k ∈ F, k ∈ G) (hG : ∀ k ∈ G, k < w.heap.size) : PMem w p r a b G := by
  obtain ⟨v0, v1, hb, h0, h1, hp, f0, f1, hne, _⟩ := h
  exact ⟨v0, v1, hb, h0, h1, hd _ hp, fun k hk => hd _ (f0 k hk), fun k hk => hd _ (f1 k hk), hne, hG⟩
theorem PMem.open_ {w : World} {p r : Nat} {a b : List Ob} {F : List Nat} (h : PMem w p r a b F) :
    ∃ A0 c0 A1 c1, Blk w p 59 #[.int .i64 r, .slice A0 a.length c0, .slice A1 b.length c1] ∧ SO w (.slice A0 a.length c0) a ∧ SO w (.slice A1 b.length c1) b ∧
      p ∈ F ∧ (∀ k, (Value.slice A0 a.length c0).ownBlock = some k → k ∈ F) ∧ (∀ k, (Value.slice A1 b.length c1).ownBlock = some k → k ∈ F) ∧ (∀ k, (Value.slice A0 a.length c0).ownBlock = some k → (Value.slice A1 b.length c1).ownBlock ≠ some k) ∧
      (∀ k ∈ F, k < w.heap.size) := by
  obtain ⟨v0, v1, hb, h0, h1, hp, f0, f1, hne, hlt⟩ := h
  obtain ⟨A0, c0, rfl⟩ := h0.form
  obtain ⟨A1, c1, rfl⟩ := h1.form
  exact ⟨A0, c0, A1, c1, hb, h0, h1, hp, f0, f1, hne, hlt⟩
/-- both change places -/
theorem PMem.swap {w w' : World} {p r : Nat} {a b : List Ob} {F : List Nat} {v0 v1 : Value} (hb : Blk w p 59 #[.int .i64 r, v0, v1]) (h0 : SO w v0 a) (h1 : SO w v1 b)
    (hp : p ∈ F) (f0 : ∀ k, v0.ownBlock = some k → k ∈ F) (f1 : ∀ k, v1.ownBlock = some k → k ∈ F) (hne : ∀ k, v0.ownBlock = some k → v1.ownBlock ≠ some k) (hlt : ∀ k ∈ F, k < w.heap.size)
    (hw : w' = ((w.setCell ⟨p, 1, none⟩ v1).setCell ⟨p, 2, none⟩ v0).drew) : PMem w' p r b a F ∧ Chg F w w' := by
  subst hw
  have n0 := h0.ne hb (by decide)
  have n1 := h1.ne hb (by decide)
  refine ⟨⟨v1, v0, ?_, ?_, ?_, hp, f1, f0, fun k hk hk' => hne k hk' hk, fun k hk => by simpa [World.setCell] using hlt k hk⟩, ?_⟩
  · have := (hb.set_ 1 v1).set_ 2 v0
    simpa using this.drew
  · exact ((Sl.far h1 (p := ⟨p, 1, none⟩) n1 _).far (p := ⟨p, 2, none⟩) n1 _).drew
  · exact ((Sl.far h0 (p := ⟨p, 1, none⟩) n0 _).far (p := ⟨p, 2, none⟩) n0 _).drew
  · exact (((Chg.refl F w).setCell (.inl hp) _).setCell (.inl hp) _).drew

/-! ## change -/

theorem empty_any (a : Option Addr) (n c : Nat) (w : World) : Calls Try.prog 49 #[.slice a n c] w fun e w' => e = .returned (.bool ((n : Int) == 0)) ∧ w = w' := by
  go_enter Try.func49, Try.ntmps49
  go_wp2
  go_ret
  exact ⟨rfl, rfl⟩

theorem full_any (p r : Nat) (a : Option Addr) (n c : Nat) (w : World) (h : w.cell? ⟨p, 0, none⟩ = some (.int .i64 r)) :
    Calls Try.prog 48 #[.pointer (some ⟨p, 0, none⟩), .slice a n c] w fun e w' => e = .returned (.bool (decide (r ≤ n))) ∧ w = w' := by
  go_enter Try.func48, Try.ntmps48
  go_wp2
  go_ret
  exact ⟨by simp, rfl⟩

set_option maxHeartbeats 1000000 in
theorem ce_swap (p : Nat) (r : Int) (A0 A1 : Option Addr) (n0 c0 n1 c1 : Nat) (w : World) (h : Blk w p 59 #[.int .i64 r, .slice A0 n0 c0, .slice A1 n1 c1]) (hn0 : ((n0 : Int) == 0) = true) (hn1 : ((n1 : Int) == 0) = false) :
    Calls Try.prog 47 #[.pointer (some ⟨p, 0, none⟩), .func (.func 49) #[] #[]] w fun e w' => e = .returned (.bool true) ∧ ((w.setCell ⟨p, 1, none⟩ (.slice A1 n1 c1)).setCell ⟨p, 2, none⟩ (.slice A0 n0 c0)).drew = w' := by
  have c1' := h.cell 1
  have c2' := h.cell 2
  have f1 := h.frozen 1
  have f2 := h.frozen 2
  simp at c1' c2'
  clear h
  go_enter Try.func47, Try.ntmps47
  go_wp2_with (first | (go_at_call 49; refine (empty_any _ _ _ _).mono ?_; rintro e w' ⟨rfl, rfl⟩) | (refine wpT_calc0 rfl rfl (fun K hK => ?_)) | (refine wpT_skipG rfl ?_ ?_; focus (simp [yielded]; done); go_simp) | (refine wpT_calcG rfl rfl ?_ (fun K hK => ?_); focus (simp [yielded]; done)) | (refine wpT_pure (fun K hK => ?_); go_simp; refine hK _ _ ?_; clear hK K) | (refine wpT_plain (by decide) rfl (fun K hK => ?_)) | (refine wpT_deed (by decide) (fun K hK => ?_); go_simp) | (refine wpT_nil ?_))
  refine wp_region_by (by kernel_rfl) (by kernel_rfl) ?_
  go_wp2_with (first | (go_at_call 49; refine (empty_any _ _ _ _).mono ?_; rintro e w' ⟨rfl, rfl⟩) | (refine wpT_calc0 rfl rfl (fun K hK => ?_)) | (refine wpT_skipG rfl ?_ ?_; focus (simp [yielded]; done); go_simp) | (refine wpT_calcG rfl rfl ?_ (fun K hK => ?_); focus (simp [yielded]; done)) | (refine wpT_pure (fun K hK => ?_); go_simp; refine hK _ _ ?_; clear hK K) | (refine wpT_plain (by decide) rfl (fun K hK => ?_)) | (refine wpT_deed (by decide) (fun K hK => ?_); go_simp) | (refine wpT_nil ?_))
  go_ret
  exact ⟨rfl, rfl⟩

set_option maxHeartbeats 1000000 in
theorem ce_none (p : Nat) (r : Int) (A0 A1 : Option Addr) (n0 c0 n1 c1 : Nat) (w : World) (h : Blk w p 59 #[.int .i64 r, .slice A0 n0 c0, .slice A1 n1 c1]) (hn0 : ((n0 : Int) == 0) = true) (hn1 : ((n1 : Int) == 0) = true) :
    Calls Try.prog 47 #[.pointer (some ⟨p, 0, none⟩), .func (.func 49) #[] #[]] w fun e w' => e = .returned (.bool false) ∧ w = w' := by
  have c1' := h.cell 1
  have c2' := h.cell 2
  simp at c1' c2'
  clear h
  go_enter Try.func47, Try.ntmps47
  go_wp2_with (first | (go_at_call 49; refine (empty_any _ _ _ _).mono ?_; rintro e w' ⟨rfl, rfl⟩) | (refine wpT_calc0 rfl rfl (fun K hK => ?_)) | (refine wpT_skipG rfl ?_ ?_; focus (simp [yielded]; done); go_simp) | (refine wpT_calcG rfl rfl ?_ (fun K hK => ?_); focus (simp [yielded]; done)) | (refine wpT_pure (fun K hK => ?_); go_simp; refine hK _ _ ?_; clear hK K) | (refine wpT_plain (by decide) rfl (fun K hK => ?_)) | (refine wpT_deed (by decide) (fun K hK => ?_); go_simp) | (refine wpT_nil ?_))
  go_ret
  exact ⟨rfl, rfl⟩

set_option maxHeartbeats 1000000 in
theorem ce_some (p : Nat) (r : Int) (A0 A1 : Option Addr) (n0 c0 n1 c1 : Nat) (w : World) (h : Blk w p 59 #[.int .i64 r, .slice A0 n0 c0, .slice A1 n1 c1]) (hn0 : ((n0 : Int) == 0) = false) :
    Calls Try.prog 47 #[.pointer (some ⟨p, 0, none⟩), .func (.func 49) #[] #[]] w fun e w' => e = .returned (.bool true) ∧ w = w' := by
  have c1' := h.cell 1
  have c2' := h.cell 2
  simp at c1' c2'
  clear h
  go_enter Try.func47, Try.ntmps47
  go_wp2_with (first | (go_at_call 49; refine (empty_any _ _ _ _).mono ?_; rintro e w' ⟨rfl, rfl⟩) | (refine wpT_calc0 rfl rfl (fun K hK => ?_)) | (refine wpT_skipG rfl ?_ ?_; focus (simp [yielded]; done); go_simp) | (refine wpT_calcG rfl rfl ?_ (fun K hK => ?_); focus (simp [yielded]; done)) | (refine wpT_pure (fun K hK => ?_); go_simp; refine hK _ _ ?_; clear hK K) | (refine wpT_plain (by decide) rfl (fun K hK => ?_)) | (refine wpT_deed (by decide) (fun K hK => ?_); go_simp) | (refine wpT_nil ?_))
  go_ret
  exact ⟨rfl, rfl⟩

set_option maxHeartbeats 1000000 in
theorem cf_swap (p : Nat) (r : Nat) (A0 A1 : Option Addr) (n0 c0 n1 c1 : Nat) (w : World) (h : Blk w p 59 #[.int .i64 r, .slice A0 n0 c0, .slice A1 n1 c1]) (hn0 : decide (r ≤ n0) = true) (hn1 : decide (r ≤ n1) = false) :
    Calls Try.prog 47 #[.pointer (some ⟨p, 0, none⟩), .func (.func 48) #[.pointer (some ⟨p, 0, none⟩)] #[]] w fun e w' => e = .returned (.bool true) ∧ ((w.setCell ⟨p, 1, none⟩ (.slice A1 n1 c1)).setCell ⟨p, 2, none⟩ (.slice A0 n0 c0)).drew = w' := by
  have c0' := h.cell 0
  have c1' := h.cell 1
  have c2' := h.cell 2
  have f1 := h.frozen 1
  have f2 := h.frozen 2
  simp at c0' c1' c2'
  clear h
  go_enter Try.func47, Try.ntmps47
  go_wp2_with (first | (go_at_call 48; refine (full_any _ r _ _ _ _ (by go_simp)).mono ?_; rintro e w' ⟨rfl, rfl⟩) | (refine wpT_calc0 rfl rfl (fun K hK => ?_)) | (refine wpT_skipG rfl ?_ ?_; focus (simp [yielded]; done); go_simp) | (refine wpT_calcG rfl rfl ?_ (fun K hK => ?_); focus (simp [yielded]; done)) | (refine wpT_pure (fun K hK => ?_); go_simp; refine hK _ _ ?_; clear hK K) | (refine wpT_plain (by decide) rfl (fun K hK => ?_)) | (refine wpT_deed (by decide) (fun K hK => ?_); go_simp) | (refine wpT_nil ?_))
  refine wp_region_by (by kernel_rfl) (by kernel_rfl) ?_
  go_wp2_with (first | (go_at_call 48; refine (full_any _ r _ _ _ _ (by go_simp)).mono ?_; rintro e w' ⟨rfl, rfl⟩) | (refine wpT_calc0 rfl rfl (fun K hK => ?_)) | (refine wpT_skipG rfl ?_ ?_; focus (simp [yielded]; done); go_simp) | (refine wpT_calcG rfl rfl ?_ (fun K hK => ?_); focus (simp [yielded]; done)) | (refine wpT_pure (fun K hK => ?_); go_simp; refine hK _ _ ?_; clear hK K) | (refine wpT_plain (by decide) rfl (fun K hK => ?_)) | (refine wpT_deed (by decide) (fun K hK => ?_); go_simp) | (refine wpT_nil ?_))
  go_ret
  exact ⟨rfl, rfl⟩

set_option maxHeartbeats 1000000 in
theorem cf_none (p : Nat) (r : Nat) (A0 A1 : Option Addr) (n0 c0 n1 c1 : Nat) (w : World) (h : Blk w p 59 #[.int .i64 r, .slice A0 n0 c0, .slice A1 n1 c1]) (hn0 : decide (r ≤ n0) = true) (hn1 : decide (r ≤ n1) = true) :
    Calls Try.prog 47 #[.pointer (some ⟨p, 0, none⟩), .func (.func 48) #[.pointer (some ⟨p, 0, none⟩)] #[]] w fun e w' => e = .returned (.bool false) ∧ w = w' := by
  have c0' := h.cell 0
  have c1' := h.cell 1
  have c2' := h.cell 2
  simp at c0' c1' c2'
  clear h
  go_enter Try.func47, Try.ntmps47
  go_wp2_with (first | (go_at_call 48; refine (full_any _ r _ _ _ _ (by go_simp)).mono ?_; rintro e w' ⟨rfl, rfl⟩) | (refine wpT_calc0 rfl rfl (fun K hK => ?_)) | (refine wpT_skipG rfl ?_ ?_; focus (simp [yielded]; done); go_simp) | (refine wpT_calcG rfl rfl ?_ (fun K hK => ?_); focus (simp [yielded]; done)) | (refine wpT_pure (fun K hK => ?_); go_simp; refine hK _ _ ?_; clear hK K) | (refine wpT_plain (by decide) rfl (fun K hK => ?_)) | (refine wpT_deed (by decide) (fun K hK => ?_); go_simp) | (refine wpT_nil ?_))
  go_ret
  exact ⟨rfl, rfl⟩

set_option maxHeartbeats 1000000 in
theorem cf_some (p : Nat) (r : Nat) (A0 A1 : Option Addr) (n0 c0 n1 c1 : Nat) (w : World) (h : Blk w p 59 #[.int .i64 r, .slice A0 n0 c0, .slice A1 n1 c1]) (hn0 : decide (r ≤ n0) = false) :
    Calls Try.prog 47 #[.pointer (some ⟨p, 0, none⟩), .func (.func 48) #[.pointer (some ⟨p, 0, none⟩)] #[]] w fun e w' => e = .returned (.bool true) ∧ w = w' := by
  have c0' := h.cell 0
  have c1' := h.cell 1
  have c2' := h.cell 2
  simp at c0' c1' c2'
  clear h
  go_enter Try.func47, Try.ntmps47
  go_wp2_with (first | (go_at_call 48; refine (full_any _ r _ _ _ _ (by go_simp)).mono ?_; rintro e w' ⟨rfl, rfl⟩) | (refine wpT_calc0 rfl rfl (fun K hK => ?_)) | (refine wpT_skipG rfl ?_ ?_; focus (simp [yielded]; done); go_simp) | (refine wpT_calcG rfl rfl ?_ (fun K hK => ?_); focus (simp [yielded]; done)) | (refine wpT_pure (fun K hK => ?_); go_simp; refine hK _ _ ?_; clear hK K) | (refine wpT_plain (by decide) rfl (fun K hK => ?_)) | (refine wpT_deed (by decide) (fun K hK => ?_); go_simp) | (refine wpT_nil ?_))
  go_ret
  exact ⟨rfl, rfl⟩
end Go.Proofs.Ytbmdcfeiecmlpaa
