/- The reference's pair: the same, over its own struct. -/
import Derived.Test.YtbmdcfeiecmlpaaMagH
namespace Go.Proofs.Ytbmdcfeiecmlpaa
open Go Go.RowKit

def RMem (w : World) (p : Nat) (r : Nat) (a b : List Ob) (F : List Nat) : Prop :=
  ∃ v0 v1, Blk w p 51 #[.int .i64 r, v0, v1] ∧ SO w v0 a ∧ SO w v1 b ∧
    p ∈ F ∧ (∀ k, v0.ownBlock = some k → k ∈ F) ∧ (∀ k, v1.ownBlock = some k → k ∈ F) ∧ (∀ k, v0.ownBlock = some k → v1.ownBlock ≠ some k) ∧ (∀ k ∈ F, k < w.heap.size)

theorem RMem.chg {w w' : World} {p r : Nat} {a b : List Ob} {F G : List Nat} (h : RMem w p r a b F) (hc : Chg G w w') (hd : ∀ k ∈ F, k ∉ G) : RMem w' p r a b F := by
  obtain ⟨v0, v1, hb, h0, h1, hp, f0, f1, hne, hlt⟩ := h
  exact ⟨v0, v1, hb.chg hc (hd _ hp), h0.chg hc (fun k hk => hd _ (f0 k hk)), h1.chg hc (fun k hk => hd _ (f1 k hk)), hp, f0, f1, hne, fun k hk => Nat.lt_of_lt_of_le (hlt k hk) hc.size⟩
theorem RMem.lt {w : World} {p r : Nat} {a b : List Ob} {F : List Nat} (h : RMem w p r a b F) : p < w.heap.size := by
  obtain ⟨v0, v1, hb, _⟩ := h
  exact hb.lt
theorem RMem.more {w : World} {p r : Nat} {a b : List Ob} {F G : List Nat} (h : RMem w p r a b F) (hd : ∀ k ∈ F, k ∈ G) (hG : ∀ k ∈ G, k < w.heap.size) : RMem w p r a b G := by
  obtain ⟨v0, v1, hb, h0, h1, hp, f0, f1, hne, _⟩ := h
  exact ⟨v0, v1, hb, h0, h1, hd _ hp, fun k hk => hd _ (f0 k hk), fun k hk => hd _ (f1 k hk), hne, hG⟩
theorem RMem.open_ {w : World} {p r : Nat} {a b : List Ob} {F : List Nat} (h : RMem w p r a b F) :
    ∃ A0 c0 A1 c1, Blk w p 51 #[.int .i64 r, .slice A0 a.length c0, .slice A1 b.length c1] ∧ SO w (.slice A0 a.length c0) a ∧ SO w (.slice A1 b.length c1) b ∧
      p ∈ F ∧ (∀ k, (Value.slice A0 a.length c0).ownBlock = some k → k ∈ F) ∧ (∀ k, (Value.slice A1 b.length c1).ownBlock = some k → k ∈ F) ∧ (∀ k, (Value.slice A0 a.length c0).ownBlock = some k → (Value.slice A1 b.length c1).ownBlock ≠ some k) ∧
      (∀ k ∈ F, k < w.heap.size) := by
  obtain ⟨v0, v1, hb, h0, h1, hp, f0, f1, hne, hlt⟩ := h
  obtain ⟨A0, c0, rfl⟩ := h0.form
  obtain ⟨A1, c1, rfl⟩ := h1.form
  exact ⟨A0, c0, A1, c1, hb, h0, h1, hp, f0, f1, hne, hlt⟩
/-- both change places -/
theorem RMem.swap {w w' : World} {p r : Nat} {a b : List Ob} {F : List Nat} {v0 v1 : Value} (hb : Blk w p 51 #[.int .i64 r, v0, v1]) (h0 : SO w v0 a) (h1 : SO w v1 b)
    (hp : p ∈ F) (f0 : ∀ k, v0.ownBlock = some k → k ∈ F) (f1 : ∀ k, v1.ownBlock = some k → k ∈ F) (hne : ∀ k, v0.ownBlock = some k → v1.ownBlock ≠ some k) (hlt : ∀ k ∈ F, k < w.heap.size)
    (hw : w' = ((w.setCell ⟨p, 1, none⟩ v1).setCell ⟨p, 2, none⟩ v0).drew) : RMem w' p r b a F ∧ Chg F w w' := by
  subst hw
  have n0 := h0.ne hb (by decide)
  have n1 := h1.ne hb (by decide)
  refine ⟨⟨v1, v0, ?_, ?_, ?_, hp, f1, f0, fun k hk hk' => hne k hk' hk, fun k hk => by simpa [World.setCell] using hlt k hk⟩, ?_⟩
  · have := (hb.set_ 1 v1).set_ 2 v0
    simpa using this.drew
  · exact ((Sl.far h1 (p := ⟨p, 1, none⟩) n1 _).far (p := ⟨p, 2, none⟩) n1 _).drew
  · exact ((Sl.far h0 (p := ⟨p, 1, none⟩) n0 _).far (p := ⟨p, 2, none⟩) n0 _).drew
  · exact (((Chg.refl F w).setCell (.inl hp) _).setCell (.inl hp) _).drew

theorem RMem.mk_ {w w' : World} {p r : Nat} {a b : List Ob} {F G : List Nat} {v0 v1 : Value} {cs : Array Value} (hbw : Blk w p 51 cs) (hb : Blk w' p 51 #[.int .i64 r, v0, v1]) (hc : Chg G w w') (hG : ∀ k ∈ G, k = p ∨ k ∉ F)
    (h0 : SO w v0 a) (h1 : SO w v1 b) (hp : p ∈ F) (f0 : ∀ k, v0.ownBlock = some k → k ∈ F) (f1 : ∀ k, v1.ownBlock = some k → k ∈ F) (hne : ∀ k, v0.ownBlock = some k → v1.ownBlock ≠ some k) (hlt : ∀ k ∈ F, k < w.heap.size) :
    RMem w' p r a b F :=
  ⟨v0, v1, hb, h0.chg hc (fun k hk hg => (hG k hg).elim (fun e => h0.ne hbw (by decide) (by rw [hk, e])) (fun n => n (f0 k hk))),
    h1.chg hc (fun k hk hg => (hG k hg).elim (fun e => h1.ne hbw (by decide) (by rw [hk, e])) (fun n => n (f1 k hk))), hp, f0, f1, hne, fun k hk => Nat.lt_of_lt_of_le (hlt k hk) hc.size⟩

theorem RMem.put0 {w : World} {p r : Nat} {a b l : List Ob} {F : List Nat} {V : Value} {B : Nat} (hm : RMem w p r a b F) (hs : SO w V l) (hB : ∀ k ∈ F, k < B) (hV : ∀ k, V.ownBlock = some k → B ≤ k) :
    RMem (w.setCell ⟨p, 1, none⟩ V) p r l b (V.ownBlock.toList ++ F) := by
  obtain ⟨v0, v1, hb, h0, h1, hp, f0, f1, hne, hlt⟩ := hm
  refine ⟨V, v1, by simpa using hb.set_ 1 V, hs.far (p := ⟨p, 1, none⟩) (hs.ne hb (by decide)) _, h1.far (p := ⟨p, 1, none⟩) (h1.ne hb (by decide)) _, List.mem_append_right _ hp, fun k hk => List.mem_append_left _ (by rw [hk]; simp), fun k hk => List.mem_append_right _ (f1 k hk), fun k hk hk2 => ?_, fun k hk => ?_⟩
  · have := hV k hk
    have := hB k (f1 k hk2)
    omega
  · have hsz : (w.setCell ⟨p, 1, none⟩ V).heap.size = w.heap.size := by simp [World.setCell]
    rw [hsz]
    rcases List.mem_append.1 hk with hk | hk
    · exact Sl.lt hs k (by simpa using hk)
    · exact hlt k hk
theorem RMem.put1nil {w : World} {p r : Nat} {a b : List Ob} {F : List Nat} (hm : RMem w p r a b F) : RMem (w.setCell ⟨p, 2, none⟩ (.slice none 0 0)) p r a [] F := by
  obtain ⟨v0, v1, hb, h0, h1, hp, f0, f1, hne, hlt⟩ := hm
  refine ⟨v0, .slice none 0 0, by simpa using hb.set_ 2 (.slice none 0 0), h0.far (p := ⟨p, 2, none⟩) (h0.ne hb (by decide)) _, Sl.nil _ _ _, hp, f0, fun k hk => by simp [Value.ownBlock] at hk, fun k hk => by simp [Value.ownBlock], fun k hk => by simpa [World.setCell] using hlt k hk⟩

theorem RMem.made (w : World) (r : Nat) : RMem (w.alloc (.cells #[.int .i64 r, .slice none 0 0, .slice none 0 0] 51)) w.heap.size r [] [] [w.heap.size] :=
  ⟨_, _, Blk.new w 51 _, Sl.nil _ _ _, Sl.nil _ _ _, by simp, fun k hk => by simp [Value.ownBlock] at hk, fun k hk => by simp [Value.ownBlock] at hk, fun k hk => by simp [Value.ownBlock] at hk, fun k hk => by
    obtain rfl := List.mem_singleton.1 hk; simp⟩

def RStk (w : World) (p r : Nat) (s : List Ob) (F : List Nat) : Prop :=
  ∃ a b, RMem w p r a b F ∧ s = b ++ a ∧ a.length ≤ r ∧ (b = [] ∨ b.length = r) ∧ 1 ≤ r ∧ r ≤ 32

theorem RStk.chg {w w' : World} {p r : Nat} {s : List Ob} {F G : List Nat} (h : RStk w p r s F) (hc : Chg G w w') (hd : ∀ k ∈ F, k ∉ G) : RStk w' p r s F := by
  obtain ⟨a, b, hm, r⟩ := h
  exact ⟨a, b, hm.chg hc hd, r⟩
theorem RStk.lt {w : World} {p r : Nat} {s : List Ob} {F : List Nat} (h : RStk w p r s F) : ∀ k ∈ F, k < w.heap.size := by
  obtain ⟨a, b, ⟨_, _, _, _, _, _, _, _, _, hF⟩, _⟩ := h
  exact hF
theorem RStk.mem {w : World} {p r : Nat} {s : List Ob} {F : List Nat} (h : RStk w p r s F) : p ∈ F := by
  obtain ⟨a, b, ⟨_, _, _, _, _, hp, _⟩, _⟩ := h
  exact hp
theorem RStk.cell0 {w : World} {p r : Nat} {s : List Ob} {F : List Nat} (h : RStk w p r s F) : w.cell? ⟨p, 0, none⟩ = some (.int .i64 r) := by
  obtain ⟨a, b, ⟨_, _, hb, _⟩, _⟩ := h
  have := hb.cell 0
  simpa using this
theorem RStk.len {w : World} {p r : Nat} {s : List Ob} {F : List Nat} (h : RStk w p r s F) : s.length ≤ 2 * r ∧ 1 ≤ r ∧ r ≤ 32 := by
  obtain ⟨a, b, _, rfl, h1, h2, h3, h4⟩ := h
  rw [List.length_append]
  rcases h2 with rfl | h2
  · exact ⟨by simp; omega, h3, h4⟩
  · exact ⟨by omega, h3, h4⟩


theorem Chg.undrew {F : List Nat} {a w : World} (h : Chg F a w.drew) : Chg F a w := ⟨h.os, h.tape, h.output, h.size, h.block⟩

set_option maxHeartbeats 1000000 in
theorem rnew_any (x : Int) (w : World) : Calls Try.prog 28 #[.int .i64 x] w fun e w' => e = .returned (.pointer (some ⟨w.heap.size, 0, none⟩)) ∧ RStk w' w.heap.size (clamp x) [] [w.heap.size] ∧ Chg [] w w' := by
  have fin : ∀ r : Nat, 1 ≤ r → r ≤ 32 → RStk (w.alloc (.cells #[.int .i64 r, .slice none 0 0, .slice none 0 0] 51)) w.heap.size r [] [w.heap.size] := fun r h1 h2 => ⟨[], [], RMem.made w r, rfl, Nat.zero_le _, .inl rfl, h1, h2⟩
  by_cases h1 : x < 1
  · rw [show clamp x = 1 by simp [clamp, h1]]
    go_enter Try.func28, Try.ntmps28
    go_wp2_with (first | fail | (refine wpT_calc0 rfl rfl (fun K hK => ?_)) | (refine wpT_skipG rfl ?_ ?_; focus (simp [yielded]; done); go_simp) | (refine wpT_calcG rfl rfl ?_ (fun K hK => ?_); focus (simp [yielded]; done)) | (refine wpT_pure (fun K hK => ?_); go_simp; refine hK _ _ ?_; clear hK K) | (refine wpT_plain (by decide) rfl (fun K hK => ?_)) | (refine wpT_deed (by decide) (fun K hK => ?_); go_simp) | (refine wpT_nil ?_))
    go_ret
    exact ⟨rfl, fin 1 (by omega) (by omega), (Chg.refl [] w).alloc _⟩
  · by_cases h2 : 32 < x
    · rw [show clamp x = 32 by simp [clamp, h1, h2]]
      go_enter Try.func28, Try.ntmps28
      go_wp2_with (first | fail | (refine wpT_calc0 rfl rfl (fun K hK => ?_)) | (refine wpT_skipG rfl ?_ ?_; focus (simp [yielded]; done); go_simp) | (refine wpT_calcG rfl rfl ?_ (fun K hK => ?_); focus (simp [yielded]; done)) | (refine wpT_pure (fun K hK => ?_); go_simp; refine hK _ _ ?_; clear hK K) | (refine wpT_plain (by decide) rfl (fun K hK => ?_)) | (refine wpT_deed (by decide) (fun K hK => ?_); go_simp) | (refine wpT_nil ?_))
      go_ret
      exact ⟨rfl, fin 32 (by omega) (by omega), (Chg.refl [] w).alloc _⟩
    · rw [show clamp x = x.toNat by simp [clamp, h1, h2]]
      go_enter Try.func28, Try.ntmps28
      go_wp2_with (first | fail | (refine wpT_calc0 rfl rfl (fun K hK => ?_)) | (refine wpT_skipG rfl ?_ ?_; focus (simp [yielded]; done); go_simp) | (refine wpT_calcG rfl rfl ?_ (fun K hK => ?_); focus (simp [yielded]; done)) | (refine wpT_pure (fun K hK => ?_); go_simp; refine hK _ _ ?_; clear hK K) | (refine wpT_plain (by decide) rfl (fun K hK => ?_)) | (refine wpT_deed (by decide) (fun K hK => ?_); go_simp) | (refine wpT_nil ?_))
      go_ret
      have e : ((x.toNat : Nat) : Int) = x := by omega
      have := fin x.toNat (by omega) (by omega)
      rw [e] at this
      exact ⟨rfl, this, (Chg.refl [] w).alloc _⟩

set_option maxHeartbeats 1000000 in
theorem rchange {w : World} {p r : Nat} {a b : List Ob} {F : List Nat} (hm : RMem w p r a b F) : Calls Try.prog 50 #[.pointer (some ⟨p, 0, none⟩)] w fun e w' => e = .returned (.tuple #[]) ∧ RMem w' p r b a F ∧ Chg F w w' := by
  obtain ⟨A0, k0, A1, k1, hb, h0, h1, hp, f0, f1, hne, hF⟩ := hm.open_
  have c1 := hb.cell 1
  have c2 := hb.cell 2
  have y1 := hb.frozen 1
  have y2 := hb.frozen 2
  simp at c1 c2
  go_enter Try.func50, Try.ntmps50
  go_wp2_with (first | fail | (refine wpT_calc0 rfl rfl (fun K hK => ?_)) | (refine wpT_skipG rfl ?_ ?_; focus (simp [yielded]; done); go_simp) | (refine wpT_calcG rfl rfl ?_ (fun K hK => ?_); focus (simp [yielded]; done)) | (refine wpT_pure (fun K hK => ?_); go_simp; refine hK _ _ ?_; clear hK K) | (refine wpT_plain (by decide) rfl (fun K hK => ?_)) | (refine wpT_deed (by decide) (fun K hK => ?_); go_simp) | (refine wpT_nil ?_))
  go_end0
  obtain ⟨h2, h3⟩ := RMem.swap hb h0 h1 hp f0 f1 hne hF rfl
  exact ⟨rfl, h2, h3.undrew⟩

set_option maxHeartbeats 2000000 in
theorem rget_some {w : World} {p r : Nat} {a b : List Ob} {F : List Nat} (hm : RMem w p r a b F) (n : Nat) (hn32 : n < 32) (hn : a.length = n + 1) (o : Ob) (ho : a[n]? = some o) :
    Calls Try.prog 30 #[.pointer (some ⟨p, 0, none⟩)] w fun e w' => e = .returned (.tuple #[.agg #[.int .i64 o.1, .int .i64 o.2], .bool true]) ∧ RMem w' p r (a.take n) b F ∧ Chg F w w' := by
  have Hn := hide hn
  have Ho := hide ho
  obtain ⟨A0, k0, A1, k1, hb, h0, h1, hp, f0, f1, hne, hF⟩ := hm.open_
  have hlt : n < a.length := by omega
  obtain ⟨g, off, c, hA, hc, q1, q2⟩ := h0.ro.at_ hlt
  injection hA with hA1 _ hA2
  subst hA1; subst hA2
  have e1 : a[n] = o := by have := Ho.out; rw [List.getElem?_eq_getElem hlt] at this; exact Option.some.inj this
  rw [e1] at q1 q2
  clear e1 hn ho
  rw [Hn.out] at hb h0 f0 hne hc
  have hb1 := hb.alloc (.cells #[.int .i64 0, .int .i64 0] 28)
  have c1 := hb.cell 1
  have y1 := hb.frozen 1
  simp at c1
  have hp1 := hF p hp
  have hpn : w.heap.size ≠ p := fun e => by omega
  have hp2 : p < w.heap.size + 1 := by omega
  have hg := World.block_lt_of_cell? w _ q1
  have hn0 : ((n : Int) + 1 == 0) = false := beq_eq_false_iff_ne.2 (by omega)
  go_enter Try.func30, Try.ntmps30
  go_wp2_with (first | fail | (refine wpT_calc0 rfl rfl (fun K hK => ?_)) | (refine wpT_skipG rfl ?_ ?_; focus (simp [yielded]; done); go_simp) | (refine wpT_calcG rfl rfl ?_ (fun K hK => ?_); focus (simp [yielded]; done)) | (refine wpT_pure (fun K hK => ?_); go_simp; refine hK _ _ ?_; clear hK K) | (refine wpT_plain (by decide) rfl (fun K hK => ?_)) | (refine wpT_deed (by decide) (fun K hK => ?_); go_simp) | (refine wpT_nil ?_))
  refine bodyPost_ret (v := .tuple #[.agg #[.int .i64 o.1, .int .i64 o.2], .bool true]) (by simp [results, Try.results30, go_sem]) rfl ⟨rfl, ?_, ?_⟩
  · have hcf : Chg [p] w (((w.setCell ⟨p, 1, none⟩ (.slice (some ⟨g, off, none⟩) n k0)).alloc (.cells #[.int .i64 o.1, .int .i64 o.2] 28)).alloc (.cells #[.int .i64 o.1, .int .i64 o.2] 28)) :=
      (((Chg.refl _ _).setCell (.inl (by simp)) _).alloc _).alloc _
    have hbf := ((hb.set_ 1 (.slice (some ⟨g, off, none⟩) n k0)).alloc (.cells #[.int .i64 o.1, .int .i64 o.2] 28)).alloc (.cells #[.int .i64 o.1, .int .i64 o.2] 28)
    simp at hbf
    refine RMem.mk_ hb hbf hcf (fun k hk => .inl (List.mem_singleton.1 hk)) ?_ h1 hp f0 f1 hne hF
    have := h0
    unfold SO at this ⊢
    rw [Hn.out] at this
    have h2 := this.take (k := n) (by omega) rfl
    rw [oc_take] at h2
    rw [List.length_take, Nat.min_eq_left (by omega)]
    exact h2
  · exact (((Chg.refl _ _).setCell (.inl hp) _).alloc _).alloc _

set_option maxHeartbeats 2000000 in
theorem rget_swap {w : World} {p r : Nat} {b : List Ob} {F : List Nat} (hm : RMem w p r [] b F) (n : Nat) (hn32 : n < 32) (hn : b.length = n + 1) (o : Ob) (ho : b[n]? = some o) :
    Calls Try.prog 30 #[.pointer (some ⟨p, 0, none⟩)] w fun e w' => e = .returned (.tuple #[.agg #[.int .i64 o.1, .int .i64 o.2], .bool true]) ∧ RMem w' p r (b.take n) [] F ∧ Chg F w w' := by
  have Hn := hide hn
  have Ho := hide ho
  obtain ⟨A0, k0, A1, k1, hb, h0, h1, hp, f0, f1, hne, hF⟩ := hm.open_
  rw [Hn.out] at hb
  have hb1 := hb.alloc (.cells #[.int .i64 0, .int .i64 0] 28)
  have c1 := hb.cell 1
  have c2 := hb.cell 2
  simp at c1 c2
  have hp1 := hF p hp
  have hn0 : ((n : Int) + 1 == 0) = false := beq_eq_false_iff_ne.2 (by omega)
  have HM := hide hm
  clear hn ho hb1 hb h0 h1 f0 f1 hne hm
  go_enter Try.func30, Try.ntmps30
  go_wp2_with (first | fail | (refine wpT_calc0 rfl rfl (fun K hK => ?_)) | (refine wpT_skipG rfl ?_ ?_; focus (simp [yielded]; done); go_simp) | (refine wpT_calcG rfl rfl ?_ (fun K hK => ?_); focus (simp [yielded]; done)) | (refine wpT_pure (fun K hK => ?_); go_simp; refine hK _ _ ?_; clear hK K) | (refine wpT_plain (by decide) rfl (fun K hK => ?_)) | (refine wpT_deed (by decide) (fun K hK => ?_); go_simp) | (refine wpT_nil ?_))
  refine (rchange (HM.out.chg ((Chg.refl [] w).alloc _) (by simp))).mono ?_
  rintro e w1 ⟨rfl, hm1, hc1⟩
  obtain ⟨A0, k0, A1, k1, hb, h0, h1, hp, f0, f1, hne, hF1⟩ := hm1.open_
  have hlt : n < b.length := by rw [Hn.out]; omega
  obtain ⟨g, off, c, hA, hc, q1, q2⟩ := h0.ro.at_ hlt
  injection hA with hA1 _ hA2
  subst hA1; subst hA2
  have e1 : b[n] = o := by have := Ho.out; rw [List.getElem?_eq_getElem hlt] at this; exact Option.some.inj this
  rw [e1] at q1 q2
  clear e1
  rw [Hn.out] at hb h0 f0 hne hc
  have c1 := hb.cell 1
  have y1 := hb.frozen 1
  simp at c1
  have hs := hc1.size
  simp at hs
  have hs2 : w.heap.size < w1.heap.size := by omega
  have hp1 := hF1 p hp
  have hpn : w.heap.size ≠ p := fun e => by have := hF p hp; omega
  have hp2 : p < w1.heap.size + 1 := by omega
  have hg := World.block_lt_of_cell? w1 _ q1
  have hbz := (Blk.new w 28 #[.int .i64 0, .int .i64 0]).chg hc1 (fun h => by have := hF _ h; omega)
  have z0 := hbz.cell 0
  have z1 := hbz.cell 1
  have z2 := hbz.frozen 0
  have z3 := hbz.frozen 1
  simp at z0 z1
  clear hbz
  go_wp2_with (first | fail | (refine wpT_calc0 rfl rfl (fun K hK => ?_)) | (refine wpT_skipG rfl ?_ ?_; focus (simp [yielded]; done); go_simp) | (refine wpT_calcG rfl rfl ?_ (fun K hK => ?_); focus (simp [yielded]; done)) | (refine wpT_pure (fun K hK => ?_); go_simp; refine hK _ _ ?_; clear hK K) | (refine wpT_plain (by decide) rfl (fun K hK => ?_)) | (refine wpT_deed (by decide) (fun K hK => ?_); go_simp) | (refine wpT_nil ?_))
  have hcf : Chg [p, w.heap.size] w1 (((w1.setCell ⟨p, 1, none⟩ (.slice (some ⟨g, off, none⟩) n k0)).setCell ⟨w.heap.size, 0, none⟩ (.int .i64 o.1)).setCell ⟨w.heap.size, 1, none⟩ (.int .i64 o.2) |>.alloc (.cells #[.int .i64 o.1, .int .i64 o.2] 28)) :=
    ((((Chg.refl _ _).setCell (.inl (by simp)) _).setCell (.inl (by simp)) _).setCell (.inl (by simp)) _).alloc _
  have hbf := (((hb.set_ 1 (.slice (some ⟨g, off, none⟩) n k0)).far (p := ⟨w.heap.size, 0, none⟩) (Ne.symm hpn) (.int .i64 o.1)).far (p := ⟨w.heap.size, 1, none⟩) (Ne.symm hpn) (.int .i64 o.2)).alloc (.cells #[.int .i64 o.1, .int .i64 o.2] 28)
  simp at hbf
  refine bodyPost_ret (v := .tuple #[.agg #[.int .i64 o.1, .int .i64 o.2], .bool true]) (by simp [results, Try.results30, go_sem, hs2, z0, z1]) rfl ⟨rfl, ?_, ?_⟩
  · refine RMem.mk_ hb hbf hcf (fun k hk => ?_) ?_ h1 hp f0 f1 hne hF1
    · rcases List.mem_cons.1 hk with rfl | hk
      · exact .inl rfl
      · obtain rfl := List.mem_singleton.1 hk
        exact .inr fun hm => by have := hF _ hm; omega
    · have := h0
      unfold SO at this ⊢
      rw [Hn.out] at this
      have h2 := this.take (k := n) (by omega) rfl
      rw [oc_take] at h2
      rw [List.length_take, Nat.min_eq_left (by omega)]
      exact h2
  · refine (((Chg.refl F w).alloc _).trans hc1 (fun x hx => .inl hx)).trans hcf (fun x hx => ?_)
    rcases List.mem_cons.1 hx with rfl | hx
    · exact .inl hp
    · obtain rfl := List.mem_singleton.1 hx
      exact .inr (Nat.le_refl _)

set_option maxHeartbeats 2000000 in
theorem rget_none {w : World} {p r : Nat} {F : List Nat} (hm : RMem w p r [] [] F) :
    Calls Try.prog 30 #[.pointer (some ⟨p, 0, none⟩)] w fun e w' => e = .returned (.tuple #[.agg #[.int .i64 0, .int .i64 0], .bool false]) ∧ RMem w' p r [] [] F ∧ Chg F w w' := by
  obtain ⟨A0, k0, A1, k1, hb, h0, h1, hp, f0, f1, hne, hF⟩ := hm.open_
  have c1 := hb.cell 1
  have c2 := hb.cell 2
  simp at c1 c2
  have hp1 := hF p hp
  clear hb h0 h1 f0 f1 hne
  go_enter Try.func30, Try.ntmps30
  go_wp2_with (first | fail | (refine wpT_calc0 rfl rfl (fun K hK => ?_)) | (refine wpT_skipG rfl ?_ ?_; focus (simp [yielded]; done); go_simp) | (refine wpT_calcG rfl rfl ?_ (fun K hK => ?_); focus (simp [yielded]; done)) | (refine wpT_pure (fun K hK => ?_); go_simp; refine hK _ _ ?_; clear hK K) | (refine wpT_plain (by decide) rfl (fun K hK => ?_)) | (refine wpT_deed (by decide) (fun K hK => ?_); go_simp) | (refine wpT_nil ?_))
  refine bodyPost_ret (v := .tuple #[.agg #[.int .i64 0, .int .i64 0], .bool false]) (by simp [results, Try.results30, go_sem]) rfl ⟨rfl, hm.chg ((Chg.refl [] w).alloc _) (by simp), (Chg.refl F w).alloc _⟩

theorem rstk_get {w : World} {p r : Nat} {s : List Ob} {F : List Nat} {x y : Int} (h : RStk w p r (s ++ [(x, y)]) F) :
    Calls Try.prog 30 #[.pointer (some ⟨p, 0, none⟩)] w fun e w' => e = .returned (.tuple #[.agg #[.int .i64 x, .int .i64 y], .bool true]) ∧ RStk w' p r s F ∧ Chg F w w' := by
  obtain ⟨a, b, hm, hs, h1, h2, h3, h4⟩ := h
  by_cases ha : a = []
  · subst ha
    rw [List.append_nil] at hs
    subst hs
    have hl := h2.resolve_left (by simp)
    rw [List.length_append] at hl
    simp at hl
    refine (rget_swap hm s.length (by omega) (by simp) (x, y) (by simp)).mono ?_
    rintro e w' ⟨he, hm', hc⟩
    rw [List.take_left] at hm'
    exact ⟨he, ⟨_, _, hm', by simp, by omega, .inl rfl, h3, h4⟩, hc⟩
  · obtain ⟨a0, o, rfl⟩ : ∃ a0 o, a = a0 ++ [o] := ⟨a.dropLast, a.getLast ha, (List.dropLast_concat_getLast ha).symm⟩
    rw [← List.append_assoc] at hs
    obtain ⟨rfl, ho⟩ := List.append_inj' hs rfl
    obtain rfl : (x, y) = o := by simpa using ho
    rw [List.length_append] at h1
    simp at h1
    refine (rget_some hm a0.length (by omega) (by simp) (x, y) (by simp)).mono ?_
    rintro e w' ⟨he, hm', hc⟩
    rw [List.take_left] at hm'
    exact ⟨he, ⟨_, _, hm', rfl, by omega, h2, h3, h4⟩, hc⟩
theorem rstk_get_no {w : World} {p r : Nat} {F : List Nat} (h : RStk w p r [] F) :
    Calls Try.prog 30 #[.pointer (some ⟨p, 0, none⟩)] w fun e w' => e = .returned (.tuple #[.agg #[.int .i64 0, .int .i64 0], .bool false]) ∧ RStk w' p r [] F ∧ Chg F w w' := by
  obtain ⟨a, b, hm, hs, h1, h2, h3, h4⟩ := h
  obtain ⟨rfl, rfl⟩ := List.append_eq_nil_iff.1 hs.symm
  refine (rget_none hm).mono ?_
  rintro e w' ⟨he, hm', hc⟩
  exact ⟨he, ⟨[], [], hm', rfl, h1, h2, h3, h4⟩, hc⟩
end Go.Proofs.Ytbmdcfeiecmlpaa
