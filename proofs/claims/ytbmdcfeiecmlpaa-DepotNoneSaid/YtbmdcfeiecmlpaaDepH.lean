import Derived.Test.YtbmdcfeiecmlpaaDepF
namespace Go.Proofs.Ytbmdcfeiecmlpaa
open Go Go.RowKit

/-- no depot, or one that was not made -/
def NoD (w : World) (v : Value) : Prop := v = .pointer none ∨ ∃ z, v = .pointer (some ⟨z, 0, none⟩) ∧ DMem 73 w z 0 [] [] [z]
theorem NoD.chg {w w' : World} {v : Value} (h : NoD w v) (hc : Chg [] w w') : NoD w' v := by
  rcases h with h | ⟨z, h, hm⟩
  · exact .inl h
  · exact .inr ⟨z, h, hm.chg hc (by simp)⟩
theorem NoD.cells {w : World} {z : Nat} (hm : DMem 73 w z 0 [] [] [z]) : w.cell? ⟨z, 0, none⟩ = some (.int .i64 (0 : Int)) ∧ (∃ A c, w.cell? ⟨z, 1, none⟩ = some (.slice A 0 c)) ∧ ∃ A c, w.cell? ⟨z, 2, none⟩ = some (.slice A 0 c) := by
  obtain ⟨A0, c0, A1, c1, vs, hb, _⟩ := hm.parts
  have x0 := hb.cell 0
  have x1 := hb.cell 1
  have x2 := hb.cell 2
  simp at x0 x1 x2
  exact ⟨x0, ⟨_, _, x1⟩, ⟨_, _, x2⟩⟩
theorem nod_rounds {w : World} {v : Value} (h : NoD w v) : Calls Try.prog 15 #[v] w fun e w' => e = .returned (.int .i64 0) ∧ w = w' := by
  rcases h with rfl | ⟨z, rfl, hm⟩
  · exact drounds_nil w
  · exact drounds_at z 0 w (NoD.cells hm).1
theorem nod_fulls {w : World} {v : Value} (h : NoD w v) : Calls Try.prog 37 #[v] w fun e w' => e = .returned (.int .i64 0) ∧ w = w' := by
  rcases h with rfl | ⟨z, rfl, hm⟩
  · exact dfulls_nil w
  · obtain ⟨_, ⟨A, c, x⟩, _⟩ := NoD.cells hm
    exact dfulls_at z A 0 c w x
theorem nod_queued {w : World} {v : Value} (h : NoD w v) : Calls Try.prog 21 #[v] w fun e w' => e = .returned (.int .i64 0) ∧ w = w' := by
  rcases h with rfl | ⟨z, rfl, hm⟩
  · exact dqueued_nil w
  · obtain ⟨_, _, A, c, x⟩ := NoD.cells hm
    exact dqueued_at z A 0 c w x
set_option maxHeartbeats 400000 in
theorem nod_queue {w : World} {v : Value} (x y : Int) (h : NoD w v) : Calls Try.prog 17 #[v, .agg #[.int .i64 x, .int .i64 y]] w fun e w' => e = .returned (.tuple #[]) ∧ Chg [] w w' := by
  go_enter Try.func17, Try.ntmps17
  go_wp2_with (first | (go_at_call 15; refine (nod_rounds (h.chg (by (repeat (first | assumption | exact Chg.refl _ _ | refine Chg.drew ?_ | refine Chg.alloc ?_ _))))).mono ?_; rintro e w1 ⟨rfl, rfl⟩) | (refine wpT_calc0 rfl rfl (fun K hK => ?_)) | (refine wpT_skipG rfl ?_ ?_; focus (simp [yielded]; done); go_simp) | (refine wpT_calcG rfl rfl ?_ (fun K hK => ?_); focus (simp [yielded]; done)) | (refine wpT_pure (fun K hK => ?_); go_simp; refine hK _ _ ?_; clear hK K) | (refine wpT_plain (by decide) rfl (fun K hK => ?_)) | (refine wpT_deed (by decide) (fun K hK => ?_); go_simp) | (refine wpT_nil ?_))
  refine bodyPost_end (by simp [results, Try.results17, go_sem]) rfl ⟨rfl, ?_⟩
  (repeat (first | assumption | exact Chg.refl _ _ | refine Chg.drew ?_ | refine Chg.alloc ?_ _))
set_option maxHeartbeats 400000 in
theorem nod_put {w : World} {v u : Value} (h : NoD w v) : Calls Try.prog 16 #[v, u] w fun e w' => e = .returned (.int .i64 1) ∧ Chg [] w w' := by
  go_enter Try.func16, Try.ntmps16
  go_wp2_with (first | (go_at_call 15; refine (nod_rounds (h.chg (by (repeat (first | assumption | exact Chg.refl _ _ | refine Chg.drew ?_ | refine Chg.alloc ?_ _))))).mono ?_; rintro e w1 ⟨rfl, rfl⟩) | (refine wpT_calc0 rfl rfl (fun K hK => ?_)) | (refine wpT_skipG rfl ?_ ?_; focus (simp [yielded]; done); go_simp) | (refine wpT_calcG rfl rfl ?_ (fun K hK => ?_); focus (simp [yielded]; done)) | (refine wpT_pure (fun K hK => ?_); go_simp; refine hK _ _ ?_; clear hK K) | (refine wpT_plain (by decide) rfl (fun K hK => ?_)) | (refine wpT_deed (by decide) (fun K hK => ?_); go_simp) | (refine wpT_nil ?_))
  go_ret
  exact ⟨rfl, by (repeat (first | assumption | exact Chg.refl _ _ | refine Chg.drew ?_ | refine Chg.alloc ?_ _))⟩
set_option maxHeartbeats 400000 in
theorem nod_get {w : World} {v : Value} (h : NoD w v) : Calls Try.prog 20 #[v] w fun e w' => e = .returned (.tuple #[.slice none 0 0, .bool false]) ∧ Chg [] w w' := by
  go_enter Try.func20, Try.ntmps20
  go_wp2_with (first | (go_at_call 37; refine (nod_fulls h).mono ?_; rintro e w1 ⟨rfl, rfl⟩) | (refine wpT_calc0 rfl rfl (fun K hK => ?_)) | (refine wpT_skipG rfl ?_ ?_; focus (simp [yielded]; done); go_simp) | (refine wpT_calcG rfl rfl ?_ (fun K hK => ?_); focus (simp [yielded]; done)) | (refine wpT_pure (fun K hK => ?_); go_simp; refine hK _ _ ?_; clear hK K) | (refine wpT_plain (by decide) rfl (fun K hK => ?_)) | (refine wpT_deed (by decide) (fun K hK => ?_); go_simp) | (refine wpT_nil ?_))
  go_ret2
  exact ⟨rfl, by (repeat (first | assumption | exact Chg.refl _ _ | refine Chg.drew ?_ | refine Chg.alloc ?_ _))⟩
set_option maxHeartbeats 400000 in
theorem nod_drain {w : World} {v : Value} (x : Int) (h : NoD w v) : Calls Try.prog 19 #[v, .int .i64 x] w fun e w' => e = .returned (.slice none 0 0) ∧ w = w' := by
  by_cases h1 : x < 0
  · go_enter Try.func19, Try.ntmps19
    go_wp2_with (first | (go_at_call 21; refine (nod_queued h).mono ?_; rintro e w1 ⟨rfl, rfl⟩) | (refine wpT_calc0 rfl rfl (fun K hK => ?_)) | (refine wpT_skipG rfl ?_ ?_; focus (simp [yielded]; done); go_simp) | (refine wpT_calcG rfl rfl ?_ (fun K hK => ?_); focus (simp [yielded]; done)) | (refine wpT_pure (fun K hK => ?_); go_simp; refine hK _ _ ?_; clear hK K) | (refine wpT_plain (by decide) rfl (fun K hK => ?_)) | (refine wpT_deed (by decide) (fun K hK => ?_); go_simp) | (refine wpT_nil ?_))
    go_ret
    exact ⟨rfl, rfl⟩
  · by_cases h2 : x = 0
    · subst h2
      go_enter Try.func19, Try.ntmps19
      go_wp2_with (first | (go_at_call 21; refine (nod_queued h).mono ?_; rintro e w1 ⟨rfl, rfl⟩) | (refine wpT_calc0 rfl rfl (fun K hK => ?_)) | (refine wpT_skipG rfl ?_ ?_; focus (simp [yielded]; done); go_simp) | (refine wpT_calcG rfl rfl ?_ (fun K hK => ?_); focus (simp [yielded]; done)) | (refine wpT_pure (fun K hK => ?_); go_simp; refine hK _ _ ?_; clear hK K) | (refine wpT_plain (by decide) rfl (fun K hK => ?_)) | (refine wpT_deed (by decide) (fun K hK => ?_); go_simp) | (refine wpT_nil ?_))
      go_ret
      exact ⟨rfl, rfl⟩
    · have h3 : 0 < x := by omega
      clear h2
      go_enter Try.func19, Try.ntmps19
      go_wp2_with (first | (go_at_call 21; refine (nod_queued h).mono ?_; rintro e w1 ⟨rfl, rfl⟩) | (refine wpT_calc0 rfl rfl (fun K hK => ?_)) | (refine wpT_skipG rfl ?_ ?_; focus (simp [yielded]; done); go_simp) | (refine wpT_calcG rfl rfl ?_ (fun K hK => ?_); focus (simp [yielded]; done)) | (refine wpT_pure (fun K hK => ?_); go_simp; refine hK _ _ ?_; clear hK K) | (refine wpT_plain (by decide) rfl (fun K hK => ?_)) | (refine wpT_deed (by decide) (fun K hK => ?_); go_simp) | (refine wpT_nil ?_))
      go_ret
      exact ⟨rfl, rfl⟩
theorem nod_all {w : World} {v : Value} (h : NoD w v) : Calls Try.prog 38 #[v] w fun e w' => (∃ A c, e = .returned (.slice A 0 c)) ∧ Chg [] w w' := by
  rcases h with rfl | ⟨z, rfl, hm⟩
  · refine (dall_nil w).mono ?_
    rintro e w' ⟨rfl, rfl⟩
    exact ⟨⟨_, _, rfl⟩, Chg.refl _ _⟩
  · refine (dall_at hm (by simp) (by simp [dall])).mono ?_
    rintro e w' ⟨⟨A, c, rfl, _⟩, hc⟩
    exact ⟨⟨A, c, rfl⟩, hc⟩
theorem nod_flush {w W : World} {v : Value} (h : NoD W v) (hn : ∀ z, v = .pointer (some ⟨z, 0, none⟩) → w.heap.size ≤ z) (hc0 : Chg [] w W) : Calls Try.prog 43 #[v] W fun e w' => (∃ A c, e = .returned (.slice A 0 c)) ∧ Chg [] w w' := by
  rcases h with rfl | ⟨z, rfl, hm⟩
  · refine (flush_nil W).mono ?_
    rintro e w' ⟨rfl, rfl⟩
    exact ⟨⟨_, _, rfl⟩, hc0⟩
  · refine (flush_at hm (by simp) (by simp [dall])).mono ?_
    rintro e w' ⟨⟨A, c, rfl, _⟩, _, hc⟩
    exact ⟨⟨A, c, rfl⟩, hc0.trans hc fun k hk => .inr (by obtain rfl := List.mem_singleton.1 hk; exact hn _ rfl)⟩

set_option maxHeartbeats 1000000 in
theorem dnone_any (x y n : Int) (w : World) : Calls Try.prog 12 #[.agg #[.int .i64 x, .int .i64 y], .int .i64 n] w fun e w' => e = .returned (.bool true) ∧ Chg [] w w' := by
  go_enter Try.func12, Try.ntmps12
  go_wp2_with fail
  obtain ⟨B, hBdef⟩ : ∃ B, B = (((w.alloc (.cells #[.int .i64 x, .int .i64 y] 28)).alloc (.cells #[.int .i64 0, .slice none 0 0, .slice none 0 0] 73)).alloc (.cells #[.pointer none, .pointer (some ⟨w.heap.size + 1, 0, none⟩)] 24)) := ⟨_, rfl⟩
  have hwB : Chg [] w B := by rw [hBdef]; (repeat (first | assumption | exact Chg.refl _ _ | refine Chg.drew ?_ | refine Chg.alloc ?_ _))
  have hbo : Blk B w.heap.size 28 #[.int .i64 x, .int .i64 y] := by rw [hBdef]; exact ((Blk.new w 28 _).alloc _).alloc _
  have hmz : DMem 73 B (w.heap.size + 1) 0 [] [] [w.heap.size + 1] := by
    have h := (DMem.made (T := 73) (w.alloc (.cells #[.int .i64 x, .int .i64 y] 28)) 0).chg ((Chg.refl [] _).alloc (.cells #[.pointer none, .pointer (some ⟨w.heap.size + 1, 0, none⟩)] 24)) (by simp)
    rw [hBdef]; simpa using h
  have hbl : Blk B (w.heap.size + 1 + 1) 24 #[.pointer none, .pointer (some ⟨w.heap.size + 1, 0, none⟩)] := by
    have h := Blk.new ((w.alloc (.cells #[.int .i64 x, .int .i64 y] 28)).alloc (.cells #[.int .i64 0, .slice none 0 0, .slice none 0 0] 73)) 24 #[.pointer none, .pointer (some ⟨w.heap.size + 1, 0, none⟩)]
    rw [hBdef]; simpa using h
  have hz : w.heap.size ≤ w.heap.size + 1 := by omega
  rw [← hBdef]
  clear hBdef
  generalize w.heap.size + 1 + 1 = L at hbl ⊢
  generalize w.heap.size + 1 = z at hmz hbl hz ⊢
  have Hz := hide hz
  clear hz
  generalize w.heap.size = o at hbo ⊢
  go_loopw [14] (fun i wr => ∃ k : Nat, k ≤ 2 ∧ i = .int .i64 k ∧ (k < 2 → Chg [] B wr) ∧ Chg [] w wr) (fun i _ => 2 - (intOf i).toNat)
  case atStart => exact ⟨0, by omega, rfl, fun _ => Chg.refl _ _, hwB⟩
  case round =>
    obtain ⟨k, hk, rfl, hc0, hcw⟩ := hrel
    obtain rfl | rfl | rfl : k = 0 ∨ k = 1 ∨ k = 2 := by omega
    · have hc : Chg [] B wr := hc0 (by omega)
      clear hc0
      have y0 := (hbl.chg hc List.not_mem_nil).cell 0
      have y1 := (hbl.chg hc List.not_mem_nil).cell 1
      have z0 := (hbo.chg hc List.not_mem_nil).cell 0
      have z1 := (hbo.chg hc List.not_mem_nil).cell 1
      simp at y0 y1 z0 z1
      have hP : NoD B (.pointer none) := .inl rfl
      go_wp2_with (first | (go_at_call 17; refine (nod_queue _ _ (hP.chg (by (repeat (first | assumption | exact Chg.refl _ _ | refine Chg.drew ?_ | refine Chg.alloc ?_ _))))).mono ?_; rintro e wq ⟨rfl, hcq⟩; have hBq : Chg [] B wq := Chg.trans (F := []) (a := B) (by (repeat (first | assumption | exact Chg.refl _ _ | refine Chg.drew ?_ | refine Chg.alloc ?_ _))) hcq (fun _ h => by cases h); have zq0 := (hbo.chg hBq List.not_mem_nil).cell 0; have zq1 := (hbo.chg hBq List.not_mem_nil).cell 1; simp at zq0 zq1) | (go_at_call 20; refine (nod_get (hP.chg (by (repeat (first | assumption | exact Chg.refl _ _ | refine Chg.drew ?_ | refine Chg.alloc ?_ _))))).mono ?_; rintro e wq ⟨rfl, hcq⟩; have hBq : Chg [] B wq := Chg.trans (F := []) (a := B) (by (repeat (first | assumption | exact Chg.refl _ _ | refine Chg.drew ?_ | refine Chg.alloc ?_ _))) hcq (fun _ h => by cases h); have zq0 := (hbo.chg hBq List.not_mem_nil).cell 0; have zq1 := (hbo.chg hBq List.not_mem_nil).cell 1; simp at zq0 zq1) | (go_at_call 16; refine (nod_put (hP.chg (by (repeat (first | assumption | exact Chg.refl _ _ | refine Chg.drew ?_ | refine Chg.alloc ?_ _))))).mono ?_; rintro e wq ⟨rfl, hcq⟩; have hBq : Chg [] B wq := Chg.trans (F := []) (a := B) (by (repeat (first | assumption | exact Chg.refl _ _ | refine Chg.drew ?_ | refine Chg.alloc ?_ _))) hcq (fun _ h => by cases h); have zq0 := (hbo.chg hBq List.not_mem_nil).cell 0; have zq1 := (hbo.chg hBq List.not_mem_nil).cell 1; simp at zq0 zq1) | (go_at_call 15; refine (nod_rounds (hP.chg (by (repeat (first | assumption | exact Chg.refl _ _ | refine Chg.drew ?_ | refine Chg.alloc ?_ _))))).mono ?_; rintro e w' ⟨rfl, rfl⟩) | (go_at_call 37; refine (nod_fulls (hP.chg (by (repeat (first | assumption | exact Chg.refl _ _ | refine Chg.drew ?_ | refine Chg.alloc ?_ _))))).mono ?_; rintro e w' ⟨rfl, rfl⟩) | (go_at_call 21; refine (nod_queued (hP.chg (by (repeat (first | assumption | exact Chg.refl _ _ | refine Chg.drew ?_ | refine Chg.alloc ?_ _))))).mono ?_; rintro e w' ⟨rfl, rfl⟩) | (go_at_call 19; refine (nod_drain _ (hP.chg (by (repeat (first | assumption | exact Chg.refl _ _ | refine Chg.drew ?_ | refine Chg.alloc ?_ _))))).mono ?_; rintro e w' ⟨rfl, rfl⟩) | (go_at_call 38; refine (nod_all (hP.chg (by (repeat (first | assumption | exact Chg.refl _ _ | refine Chg.drew ?_ | refine Chg.alloc ?_ _))))).mono ?_; rintro e wq ⟨⟨A, c, rfl⟩, hcq⟩; have hBq : Chg [] B wq := Chg.trans (F := []) (a := B) (by (repeat (first | assumption | exact Chg.refl _ _ | refine Chg.drew ?_ | refine Chg.alloc ?_ _))) hcq (fun _ h => by cases h); have zq0 := (hbo.chg hBq List.not_mem_nil).cell 0; have zq1 := (hbo.chg hBq List.not_mem_nil).cell 1; simp at zq0 zq1) | (go_at_call 43; refine (nod_flush (w := B) (hP.chg (by (repeat (first | assumption | exact Chg.refl _ _ | refine Chg.drew ?_ | refine Chg.alloc ?_ _)))) (fun z h => by cases h) (by (repeat (first | assumption | exact Chg.refl _ _ | refine Chg.drew ?_ | refine Chg.alloc ?_ _)))).mono ?_; rintro e wf ⟨⟨A, c, rfl⟩, hcf⟩))
      go_roundw
      case rel => exact ⟨1, by omega, by go_num, fun _ => hcf, hwB.trans hcf (fun _ h => by cases h)⟩
      case measure => simp [intOf]
    · have hc : Chg [] B wr := hc0 (by omega)
      clear hc0
      have y0 := (hbl.chg hc List.not_mem_nil).cell 0
      have y1 := (hbl.chg hc List.not_mem_nil).cell 1
      have z0 := (hbo.chg hc List.not_mem_nil).cell 0
      have z1 := (hbo.chg hc List.not_mem_nil).cell 1
      simp at y0 y1 z0 z1
      have hP : NoD B (.pointer (some ⟨z, 0, none⟩)) := .inr ⟨z, rfl, hmz⟩
      go_wp2_with (first | (go_at_call 17; refine (nod_queue _ _ (hP.chg (by (repeat (first | assumption | exact Chg.refl _ _ | refine Chg.drew ?_ | refine Chg.alloc ?_ _))))).mono ?_; rintro e wq ⟨rfl, hcq⟩; have hBq : Chg [] B wq := Chg.trans (F := []) (a := B) (by (repeat (first | assumption | exact Chg.refl _ _ | refine Chg.drew ?_ | refine Chg.alloc ?_ _))) hcq (fun _ h => by cases h); have zq0 := (hbo.chg hBq List.not_mem_nil).cell 0; have zq1 := (hbo.chg hBq List.not_mem_nil).cell 1; simp at zq0 zq1) | (go_at_call 20; refine (nod_get (hP.chg (by (repeat (first | assumption | exact Chg.refl _ _ | refine Chg.drew ?_ | refine Chg.alloc ?_ _))))).mono ?_; rintro e wq ⟨rfl, hcq⟩; have hBq : Chg [] B wq := Chg.trans (F := []) (a := B) (by (repeat (first | assumption | exact Chg.refl _ _ | refine Chg.drew ?_ | refine Chg.alloc ?_ _))) hcq (fun _ h => by cases h); have zq0 := (hbo.chg hBq List.not_mem_nil).cell 0; have zq1 := (hbo.chg hBq List.not_mem_nil).cell 1; simp at zq0 zq1) | (go_at_call 16; refine (nod_put (hP.chg (by (repeat (first | assumption | exact Chg.refl _ _ | refine Chg.drew ?_ | refine Chg.alloc ?_ _))))).mono ?_; rintro e wq ⟨rfl, hcq⟩; have hBq : Chg [] B wq := Chg.trans (F := []) (a := B) (by (repeat (first | assumption | exact Chg.refl _ _ | refine Chg.drew ?_ | refine Chg.alloc ?_ _))) hcq (fun _ h => by cases h); have zq0 := (hbo.chg hBq List.not_mem_nil).cell 0; have zq1 := (hbo.chg hBq List.not_mem_nil).cell 1; simp at zq0 zq1) | (go_at_call 15; refine (nod_rounds (hP.chg (by (repeat (first | assumption | exact Chg.refl _ _ | refine Chg.drew ?_ | refine Chg.alloc ?_ _))))).mono ?_; rintro e w' ⟨rfl, rfl⟩) | (go_at_call 37; refine (nod_fulls (hP.chg (by (repeat (first | assumption | exact Chg.refl _ _ | refine Chg.drew ?_ | refine Chg.alloc ?_ _))))).mono ?_; rintro e w' ⟨rfl, rfl⟩) | (go_at_call 21; refine (nod_queued (hP.chg (by (repeat (first | assumption | exact Chg.refl _ _ | refine Chg.drew ?_ | refine Chg.alloc ?_ _))))).mono ?_; rintro e w' ⟨rfl, rfl⟩) | (go_at_call 19; refine (nod_drain _ (hP.chg (by (repeat (first | assumption | exact Chg.refl _ _ | refine Chg.drew ?_ | refine Chg.alloc ?_ _))))).mono ?_; rintro e w' ⟨rfl, rfl⟩) | (go_at_call 38; refine (nod_all (hP.chg (by (repeat (first | assumption | exact Chg.refl _ _ | refine Chg.drew ?_ | refine Chg.alloc ?_ _))))).mono ?_; rintro e wq ⟨⟨A, c, rfl⟩, hcq⟩; have hBq : Chg [] B wq := Chg.trans (F := []) (a := B) (by (repeat (first | assumption | exact Chg.refl _ _ | refine Chg.drew ?_ | refine Chg.alloc ?_ _))) hcq (fun _ h => by cases h); have zq0 := (hbo.chg hBq List.not_mem_nil).cell 0; have zq1 := (hbo.chg hBq List.not_mem_nil).cell 1; simp at zq0 zq1) | (go_at_call 43; refine (nod_flush (w := w) (hP.chg (by (repeat (first | assumption | exact Chg.refl _ _ | refine Chg.drew ?_ | refine Chg.alloc ?_ _)))) (fun z' h => by injection h with h; injection h with h; injection h with h; rw [← h]; exact Hz.out) (hwB.trans (F := []) (a := w) (b := B) (by (repeat (first | assumption | exact Chg.refl _ _ | refine Chg.drew ?_ | refine Chg.alloc ?_ _))) (fun _ h => by cases h))).mono ?_; rintro e wf ⟨⟨A, c, rfl⟩, hcf⟩))
      go_roundw
      case rel => exact ⟨2, by omega, by go_num, fun h => by omega, hcf⟩
      case measure => simp [intOf]
    · go_wp2_with (go_at_call 13; refine (dknown_any _).mono ?_; rintro e w1 ⟨rfl, hc1⟩)
      go_ret
      exact ⟨rfl, hcw.trans hc1 (fun _ h => by cases h)⟩
end Go.Proofs.Ytbmdcfeiecmlpaa
