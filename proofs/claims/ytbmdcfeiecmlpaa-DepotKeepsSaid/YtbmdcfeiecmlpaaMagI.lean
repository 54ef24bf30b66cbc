import Derived.Test.YtbmdcfeiecmlpaaMagH
namespace Go.Proofs.Ytbmdcfeiecmlpaa
open Go Go.RowKit

/-- P is no pair, or one that was not made -/
def NoP (w : World) (v : Value) : Prop := v = .pointer none ∨ ∃ z, v = .pointer (some ⟨z, 0, none⟩) ∧ Blk w z 59 #[.int .i64 0, .slice none 0 0, .slice none 0 0]
theorem NoP.chg {w w' : World} {v : Value} (h : NoP w v) (hc : Chg [] w w') : NoP w' v := by
  rcases h with h | ⟨z, h, hb⟩
  · exact .inl h
  · exact .inr ⟨z, h, hb.chg hc List.not_mem_nil⟩
theorem rounds_z {w : World} {v : Value} (h : NoP w v) : Calls Try.prog 27 #[v] w fun e w' => e = .returned (.int .i64 0) ∧ w = w' := by
  rcases h with rfl | ⟨z, rfl, hb⟩
  · exact rounds_nil w
  · exact rounds_at z 0 w (by simpa using hb.cell 0)

set_option maxHeartbeats 400000 in
theorem get_z {w : World} {v : Value} (h : NoP w v) : Calls Try.prog 25 #[v] w fun e w' => e = .returned (.tuple #[.agg #[.int .i64 0, .int .i64 0], .bool false]) ∧ Chg [] w w' := by
  go_enter Try.func25, Try.ntmps25
  go_wp2_with (first | (go_at_call 27; refine (rounds_z (h.chg (by (repeat (first | assumption | exact Chg.refl _ _ | refine Chg.drew ?_ | refine Chg.alloc ?_ _))))).mono ?_; rintro e w1 ⟨rfl, rfl⟩) | (refine wpT_calc0 rfl rfl (fun K hK => ?_)) | (refine wpT_skipG rfl ?_ ?_; focus (simp [yielded]; done); go_simp) | (refine wpT_calcG rfl rfl ?_ (fun K hK => ?_); focus (simp [yielded]; done)) | (refine wpT_pure (fun K hK => ?_); go_simp; refine hK _ _ ?_; clear hK K) | (refine wpT_plain (by decide) rfl (fun K hK => ?_)) | (refine wpT_deed (by decide) (fun K hK => ?_); go_simp) | (refine wpT_nil ?_))
  refine bodyPost_ret (v := .tuple #[.agg #[.int .i64 0, .int .i64 0], .bool false]) (by simp [results, Try.results25, go_sem]) rfl ⟨rfl, ?_⟩
  (repeat (first | assumption | exact Chg.refl _ _ | refine Chg.drew ?_ | refine Chg.alloc ?_ _))
set_option maxHeartbeats 400000 in
theorem put_z {w : World} {v : Value} (x y : Int) (h : NoP w v) : Calls Try.prog 24 #[v, .agg #[.int .i64 x, .int .i64 y]] w fun e w' => e = .returned (.bool false) ∧ Chg [] w w' := by
  go_enter Try.func24, Try.ntmps24
  go_wp2_with (first | (go_at_call 27; refine (rounds_z (h.chg (by (repeat (first | assumption | exact Chg.refl _ _ | refine Chg.drew ?_ | refine Chg.alloc ?_ _))))).mono ?_; rintro e w1 ⟨rfl, rfl⟩) | (refine wpT_calc0 rfl rfl (fun K hK => ?_)) | (refine wpT_skipG rfl ?_ ?_; focus (simp [yielded]; done); go_simp) | (refine wpT_calcG rfl rfl ?_ (fun K hK => ?_); focus (simp [yielded]; done)) | (refine wpT_pure (fun K hK => ?_); go_simp; refine hK _ _ ?_; clear hK K) | (refine wpT_plain (by decide) rfl (fun K hK => ?_)) | (refine wpT_deed (by decide) (fun K hK => ?_); go_simp) | (refine wpT_nil ?_))
  go_ret
  exact ⟨rfl, by (repeat (first | assumption | exact Chg.refl _ _ | refine Chg.drew ?_ | refine Chg.alloc ?_ _))⟩
set_option maxHeartbeats 400000 in
theorem load_z {w : World} {v u : Value} (h : NoP w v) : Calls Try.prog 31 #[v, u] w fun e w' => e = .returned (.int .i64 1) ∧ Chg [] w w' := by
  go_enter Try.func31, Try.ntmps31
  go_wp2_with (first | (go_at_call 27; refine (rounds_z (h.chg (by (repeat (first | assumption | exact Chg.refl _ _ | refine Chg.drew ?_ | refine Chg.alloc ?_ _))))).mono ?_; rintro e w1 ⟨rfl, rfl⟩) | (refine wpT_calc0 rfl rfl (fun K hK => ?_)) | (refine wpT_skipG rfl ?_ ?_; focus (simp [yielded]; done); go_simp) | (refine wpT_calcG rfl rfl ?_ (fun K hK => ?_); focus (simp [yielded]; done)) | (refine wpT_pure (fun K hK => ?_); go_simp; refine hK _ _ ?_; clear hK K) | (refine wpT_plain (by decide) rfl (fun K hK => ?_)) | (refine wpT_deed (by decide) (fun K hK => ?_); go_simp) | (refine wpT_nil ?_))
  go_ret
  exact ⟨rfl, by (repeat (first | assumption | exact Chg.refl _ _ | refine Chg.drew ?_ | refine Chg.alloc ?_ _))⟩
set_option maxHeartbeats 400000 in
theorem unload_z {w : World} {v : Value} (h : NoP w v) : Calls Try.prog 33 #[v] w fun e w' => e = .returned (.tuple #[.slice none 0 0, .int .i64 1]) ∧ Chg [] w w' := by
  go_enter Try.func33, Try.ntmps33
  go_wp2_with (first | (go_at_call 27; refine (rounds_z (h.chg (by (repeat (first | assumption | exact Chg.refl _ _ | refine Chg.drew ?_ | refine Chg.alloc ?_ _))))).mono ?_; rintro e w1 ⟨rfl, rfl⟩) | (refine wpT_calc0 rfl rfl (fun K hK => ?_)) | (refine wpT_skipG rfl ?_ ?_; focus (simp [yielded]; done); go_simp) | (refine wpT_calcG rfl rfl ?_ (fun K hK => ?_); focus (simp [yielded]; done)) | (refine wpT_pure (fun K hK => ?_); go_simp; refine hK _ _ ?_; clear hK K) | (refine wpT_plain (by decide) rfl (fun K hK => ?_)) | (refine wpT_deed (by decide) (fun K hK => ?_); go_simp) | (refine wpT_nil ?_))
  go_ret2
  exact ⟨rfl, by (repeat (first | assumption | exact Chg.refl _ _ | refine Chg.drew ?_ | refine Chg.alloc ?_ _))⟩
theorem all_z {w : World} {v : Value} (h : NoP w v) : Calls Try.prog 35 #[v] w fun e w' => (∃ A c, e = .returned (.slice A 0 c)) ∧ Chg [] w w' := by
  rcases h with rfl | ⟨z, rfl, hb⟩
  · refine (all_nil w).mono ?_
    rintro e w' ⟨rfl, rfl⟩
    exact ⟨⟨_, _, rfl⟩, Chg.refl _ _⟩
  · have hm : PMem w z 0 [] [] [z] := ⟨_, _, hb, Sl.nil _ _ _, Sl.nil _ _ _, by simp, fun k hk => by simp [Value.ownBlock] at hk, fun k hk => by simp [Value.ownBlock] at hk, fun k hk => by simp [Value.ownBlock] at hk, fun k hk => by
      obtain rfl := List.mem_singleton.1 hk; exact hb.lt⟩
    refine (all_at hm (by simp) (by simp)).mono ?_
    rintro e w' ⟨⟨A, c, rfl, _, _⟩, hc⟩
    exact ⟨⟨_, _, rfl⟩, hc⟩
theorem len_z {w : World} {v : Value} (h : NoP w v) : Calls Try.prog 26 #[v] w fun e w' => e = .returned (.int .i64 0) ∧ Chg [] w w' := by
  rcases h with rfl | ⟨z, rfl, hb⟩
  · refine (len_nil w).mono ?_
    rintro e w' ⟨rfl, rfl⟩
    exact ⟨rfl, Chg.refl _ _⟩
  · have hm : PMem w z 0 [] [] [z] := ⟨_, _, hb, Sl.nil _ _ _, Sl.nil _ _ _, by simp, fun k hk => by simp [Value.ownBlock] at hk, fun k hk => by simp [Value.ownBlock] at hk, fun k hk => by simp [Value.ownBlock] at hk, fun k hk => by
      obtain rfl := List.mem_singleton.1 hk; exact hb.lt⟩
    refine (len_at hm (by simp) (by simp)).mono ?_
    rintro e w' ⟨rfl, hc⟩
    exact ⟨rfl, hc⟩

set_option maxHeartbeats 400000 in
theorem none_any (x y : Int) (w : World) : Calls Try.prog 8 #[.agg #[.int .i64 x, .int .i64 y]] w fun e w' => e = .returned (.bool true) ∧ Chg [] w w' := by
  go_enter Try.func8, Try.ntmps8
  go_wp2_with fail
  obtain ⟨B, hBdef⟩ : ∃ B, B = (((w.alloc (.cells #[.int .i64 x, .int .i64 y] 28)).alloc (.cells #[.int .i64 0, .slice none 0 0, .slice none 0 0] 59)).alloc (.cells #[.pointer none, .pointer (some ⟨w.heap.size + 1, 0, none⟩)] 39)) := ⟨_, rfl⟩
  have hwB : Chg [] w B := by rw [hBdef]; (repeat (first | assumption | exact Chg.refl _ _ | refine Chg.drew ?_ | refine Chg.alloc ?_ _))
  have hbo : Blk B w.heap.size 28 #[.int .i64 x, .int .i64 y] := by rw [hBdef]; exact ((Blk.new w 28 _).alloc _).alloc _
  have hbz : Blk B (w.heap.size + 1) 59 #[.int .i64 0, .slice none 0 0, .slice none 0 0] := by
    have h := (Blk.new (w.alloc (.cells #[.int .i64 x, .int .i64 y] 28)) 59 #[.int .i64 0, .slice none 0 0, .slice none 0 0]).alloc (.cells #[.pointer none, .pointer (some ⟨w.heap.size + 1, 0, none⟩)] 39)
    rw [hBdef]; simpa using h
  have hbl : Blk B (w.heap.size + 1 + 1) 39 #[.pointer none, .pointer (some ⟨w.heap.size + 1, 0, none⟩)] := by
    have h := Blk.new ((w.alloc (.cells #[.int .i64 x, .int .i64 y] 28)).alloc (.cells #[.int .i64 0, .slice none 0 0, .slice none 0 0] 59)) 39 #[.pointer none, .pointer (some ⟨w.heap.size + 1, 0, none⟩)]
    rw [hBdef]; simpa using h
  rw [← hBdef]
  clear hBdef
  generalize w.heap.size + 1 + 1 = L at hbl ⊢
  generalize w.heap.size + 1 = z at hbz hbl ⊢
  generalize w.heap.size = o at hbo ⊢
  go_loopw [14] (fun i wr => ∃ k : Nat, k ≤ 2 ∧ i = .int .i64 k ∧ Chg [] B wr) (fun i _ => 2 - (intOf i).toNat)
  case atStart => exact ⟨0, by omega, rfl, Chg.refl _ _⟩
  case round =>
    obtain ⟨k, hk, rfl, hc⟩ := hrel
    have y0 := (hbl.chg hc List.not_mem_nil).cell 0
    have y1 := (hbl.chg hc List.not_mem_nil).cell 1
    have z0 := (hbo.chg hc List.not_mem_nil).cell 0
    have z1 := (hbo.chg hc List.not_mem_nil).cell 1
    simp at y0 y1 z0 z1
    obtain rfl | rfl | rfl : k = 0 ∨ k = 1 ∨ k = 2 := by omega
    · have hP : NoP B (.pointer none) := .inl rfl
      go_wp2_with (first | (go_at_call 25; refine (get_z (hP.chg (by (repeat (first | assumption | exact Chg.refl _ _ | refine Chg.drew ?_ | refine Chg.alloc ?_ _))))).mono ?_; rintro e wq ⟨rfl, hcq⟩; have hBq : Chg [] B wq := Chg.trans (F := []) (a := B) (by (repeat (first | assumption | exact Chg.refl _ _ | refine Chg.drew ?_ | refine Chg.alloc ?_ _))) hcq (fun _ h => by cases h); have zq0 := (hbo.chg hBq List.not_mem_nil).cell 0; have zq1 := (hbo.chg hBq List.not_mem_nil).cell 1; simp at zq0 zq1) | (go_at_call 33; refine (unload_z (hP.chg (by (repeat (first | assumption | exact Chg.refl _ _ | refine Chg.drew ?_ | refine Chg.alloc ?_ _))))).mono ?_; rintro e wq ⟨rfl, hcq⟩; have hBq : Chg [] B wq := Chg.trans (F := []) (a := B) (by (repeat (first | assumption | exact Chg.refl _ _ | refine Chg.drew ?_ | refine Chg.alloc ?_ _))) hcq (fun _ h => by cases h); have zq0 := (hbo.chg hBq List.not_mem_nil).cell 0; have zq1 := (hbo.chg hBq List.not_mem_nil).cell 1; simp at zq0 zq1) | (go_at_call 24; refine (put_z _ _ (hP.chg (by (repeat (first | assumption | exact Chg.refl _ _ | refine Chg.drew ?_ | refine Chg.alloc ?_ _))))).mono ?_; rintro e wq ⟨rfl, hcq⟩; have hBq : Chg [] B wq := Chg.trans (F := []) (a := B) (by (repeat (first | assumption | exact Chg.refl _ _ | refine Chg.drew ?_ | refine Chg.alloc ?_ _))) hcq (fun _ h => by cases h); have zq0 := (hbo.chg hBq List.not_mem_nil).cell 0; have zq1 := (hbo.chg hBq List.not_mem_nil).cell 1; simp at zq0 zq1) | (go_at_call 31; refine (load_z (hP.chg (by (repeat (first | assumption | exact Chg.refl _ _ | refine Chg.drew ?_ | refine Chg.alloc ?_ _))))).mono ?_; rintro e wq ⟨rfl, hcq⟩; have hBq : Chg [] B wq := Chg.trans (F := []) (a := B) (by (repeat (first | assumption | exact Chg.refl _ _ | refine Chg.drew ?_ | refine Chg.alloc ?_ _))) hcq (fun _ h => by cases h); have zq0 := (hbo.chg hBq List.not_mem_nil).cell 0; have zq1 := (hbo.chg hBq List.not_mem_nil).cell 1; simp at zq0 zq1) | (go_at_call 26; refine (len_z (hP.chg (by (repeat (first | assumption | exact Chg.refl _ _ | refine Chg.drew ?_ | refine Chg.alloc ?_ _))))).mono ?_; rintro e wq ⟨rfl, hcq⟩; have hBq : Chg [] B wq := Chg.trans (F := []) (a := B) (by (repeat (first | assumption | exact Chg.refl _ _ | refine Chg.drew ?_ | refine Chg.alloc ?_ _))) hcq (fun _ h => by cases h); have zq0 := (hbo.chg hBq List.not_mem_nil).cell 0; have zq1 := (hbo.chg hBq List.not_mem_nil).cell 1; simp at zq0 zq1) | (go_at_call 35; refine (all_z (hP.chg (by (repeat (first | assumption | exact Chg.refl _ _ | refine Chg.drew ?_ | refine Chg.alloc ?_ _))))).mono ?_; rintro e wq ⟨⟨A, c, rfl⟩, hcq⟩; have hBq : Chg [] B wq := Chg.trans (F := []) (a := B) (by (repeat (first | assumption | exact Chg.refl _ _ | refine Chg.drew ?_ | refine Chg.alloc ?_ _))) hcq (fun _ h => by cases h); have zq0 := (hbo.chg hBq List.not_mem_nil).cell 0; have zq1 := (hbo.chg hBq List.not_mem_nil).cell 1; simp at zq0 zq1) | (go_at_call 27; refine (rounds_z (hP.chg (by (repeat (first | assumption | exact Chg.refl _ _ | refine Chg.drew ?_ | refine Chg.alloc ?_ _))))).mono ?_; rintro e wq ⟨rfl, rfl⟩))
      go_roundw
      case rel => exact ⟨1, by omega, by go_num, by (repeat (first | assumption | exact Chg.refl _ _ | refine Chg.drew ?_ | refine Chg.alloc ?_ _))⟩
      case measure => simp [intOf]
    · have hP : NoP B (.pointer (some ⟨z, 0, none⟩)) := .inr ⟨z, rfl, hbz⟩
      go_wp2_with (first | (go_at_call 25; refine (get_z (hP.chg (by (repeat (first | assumption | exact Chg.refl _ _ | refine Chg.drew ?_ | refine Chg.alloc ?_ _))))).mono ?_; rintro e wq ⟨rfl, hcq⟩; have hBq : Chg [] B wq := Chg.trans (F := []) (a := B) (by (repeat (first | assumption | exact Chg.refl _ _ | refine Chg.drew ?_ | refine Chg.alloc ?_ _))) hcq (fun _ h => by cases h); have zq0 := (hbo.chg hBq List.not_mem_nil).cell 0; have zq1 := (hbo.chg hBq List.not_mem_nil).cell 1; simp at zq0 zq1) | (go_at_call 33; refine (unload_z (hP.chg (by (repeat (first | assumption | exact Chg.refl _ _ | refine Chg.drew ?_ | refine Chg.alloc ?_ _))))).mono ?_; rintro e wq ⟨rfl, hcq⟩; have hBq : Chg [] B wq := Chg.trans (F := []) (a := B) (by (repeat (first | assumption | exact Chg.refl _ _ | refine Chg.drew ?_ | refine Chg.alloc ?_ _))) hcq (fun _ h => by cases h); have zq0 := (hbo.chg hBq List.not_mem_nil).cell 0; have zq1 := (hbo.chg hBq List.not_mem_nil).cell 1; simp at zq0 zq1) | (go_at_call 24; refine (put_z _ _ (hP.chg (by (repeat (first | assumption | exact Chg.refl _ _ | refine Chg.drew ?_ | refine Chg.alloc ?_ _))))).mono ?_; rintro e wq ⟨rfl, hcq⟩; have hBq : Chg [] B wq := Chg.trans (F := []) (a := B) (by (repeat (first | assumption | exact Chg.refl _ _ | refine Chg.drew ?_ | refine Chg.alloc ?_ _))) hcq (fun _ h => by cases h); have zq0 := (hbo.chg hBq List.not_mem_nil).cell 0; have zq1 := (hbo.chg hBq List.not_mem_nil).cell 1; simp at zq0 zq1) | (go_at_call 31; refine (load_z (hP.chg (by (repeat (first | assumption | exact Chg.refl _ _ | refine Chg.drew ?_ | refine Chg.alloc ?_ _))))).mono ?_; rintro e wq ⟨rfl, hcq⟩; have hBq : Chg [] B wq := Chg.trans (F := []) (a := B) (by (repeat (first | assumption | exact Chg.refl _ _ | refine Chg.drew ?_ | refine Chg.alloc ?_ _))) hcq (fun _ h => by cases h); have zq0 := (hbo.chg hBq List.not_mem_nil).cell 0; have zq1 := (hbo.chg hBq List.not_mem_nil).cell 1; simp at zq0 zq1) | (go_at_call 26; refine (len_z (hP.chg (by (repeat (first | assumption | exact Chg.refl _ _ | refine Chg.drew ?_ | refine Chg.alloc ?_ _))))).mono ?_; rintro e wq ⟨rfl, hcq⟩; have hBq : Chg [] B wq := Chg.trans (F := []) (a := B) (by (repeat (first | assumption | exact Chg.refl _ _ | refine Chg.drew ?_ | refine Chg.alloc ?_ _))) hcq (fun _ h => by cases h); have zq0 := (hbo.chg hBq List.not_mem_nil).cell 0; have zq1 := (hbo.chg hBq List.not_mem_nil).cell 1; simp at zq0 zq1) | (go_at_call 35; refine (all_z (hP.chg (by (repeat (first | assumption | exact Chg.refl _ _ | refine Chg.drew ?_ | refine Chg.alloc ?_ _))))).mono ?_; rintro e wq ⟨⟨A, c, rfl⟩, hcq⟩; have hBq : Chg [] B wq := Chg.trans (F := []) (a := B) (by (repeat (first | assumption | exact Chg.refl _ _ | refine Chg.drew ?_ | refine Chg.alloc ?_ _))) hcq (fun _ h => by cases h); have zq0 := (hbo.chg hBq List.not_mem_nil).cell 0; have zq1 := (hbo.chg hBq List.not_mem_nil).cell 1; simp at zq0 zq1) | (go_at_call 27; refine (rounds_z (hP.chg (by (repeat (first | assumption | exact Chg.refl _ _ | refine Chg.drew ?_ | refine Chg.alloc ?_ _))))).mono ?_; rintro e wq ⟨rfl, rfl⟩))
      go_roundw
      case rel => exact ⟨2, by omega, by go_num, by (repeat (first | assumption | exact Chg.refl _ _ | refine Chg.drew ?_ | refine Chg.alloc ?_ _))⟩
      case measure => simp [intOf]
    · go_wp2_with (go_at_call 22; refine (known_any _).mono ?_; rintro e w1 ⟨rfl, hc1⟩)
      go_ret
      exact ⟨rfl, (hwB.trans hc (fun _ h => by cases h)).trans hc1 (fun _ h => by cases h)⟩
end Go.Proofs.Ytbmdcfeiecmlpaa
