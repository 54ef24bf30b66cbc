import Derived.Test.YtbmdcfeiecmlpaaRefA
namespace Go.Proofs.Ytbmdcfeiecmlpaa
open Go Go.RowKit

theorem load_slice {P : Program} {w : World} {t e : TypeId} {ad : Addr} {v : Value} (ht : P.underlying t = some (.slice e)) (h : w.cell? ad = some v) : (loadVar t ad).run P w = .ok v w := by
  simp [loadVar, isAgg, run_underlying ht, load, Sem.run, h]
theorem load_int {P : Program} {w : World} {t : TypeId} {k : IntKind} {ad : Addr} {v : Value} (ht : P.underlying t = some (.int k)) (h : w.cell? ad = some v) : (loadVar t ad).run P w = .ok v w := by
  simp [loadVar, isAgg, run_underlying ht, load, Sem.run, h]

theorem SO_nil_new (w : World) : SO (w.alloc (.cells #[] 28)) (.slice (some ⟨w.heap.size, 0, none⟩) 0 0) [] := Sl.made w 28 2 #[] 0 0 (Nat.le_refl _) (Nat.zero_le _) (Nat.le_refl _)

set_option maxHeartbeats 2000000 in
theorem rall_at {w : World} {p r : Nat} {a b : List Ob} {F : List Nat} (hm : RMem w p r a b F) (ha : a.length ≤ 1000) (hb' : b.length ≤ 1000) :
    Calls Try.prog 36 #[.pointer (some ⟨p, 0, none⟩)] w fun e w' => NewO w w' (b ++ a) e ∧ Chg [] w w' := by
  obtain ⟨A0, k0, A1, k1, hb, h0, h1, hp, f0, f1, hne, hF⟩ := hm.open_
  have hp1 := hF p hp
  have c1 := hb.cell 1
  have c2 := hb.cell 2
  simp at c1 c2
  go_enter Try.func36, Try.ntmps36
  go_wp2_with (first | fail | (refine wpT_calc0 rfl rfl (fun K hK => ?_)) | (refine wpT_skipG rfl ?_ ?_; focus (simp [yielded]; done); go_simp) | (refine wpT_calcG rfl rfl ?_ (fun K hK => ?_); focus (simp [yielded]; done)) | (refine wpT_pure (fun K hK => ?_); go_simp; refine hK _ _ ?_; clear hK K) | (refine wpT_plain (by decide) rfl (fun K hK => ?_)) | (refine wpT_deed (by decide) (fun K hK => ?_); go_simp) | (refine wpT_nil ?_))
  refine wp_region_text [6, 0, 0, 0, 5, 6, 0, 0, 0, 5, 3, 0] (fun W => Chg [] w W) (by kernel_rfl) (by kernel_rfl) (by kernel_rfl) ?_
  have hS0 : Chg [] w w.drew := (Chg.refl _ _).drew
  refine wpT_keeps hS0 rfl (fun K hK => ?_)
  go_simp
  have hS1 : Chg [] w (w.alloc (.cells #[] 28)).drew := ((Chg.refl _ _).alloc _).drew
  refine hK _ _ hS1 ?_
  clear hK K
  go_wp2_with (first | (refine wpT_hload 22 _ rfl rfl rfl (fun w' hw' => load_slice Try.underlying22 (hw'.cell c2 List.not_mem_nil)) hS1 ?_; go_simp) | (refine wpT_calc0 rfl rfl (fun K hK => ?_)) | (refine wpT_skipG rfl ?_ ?_; focus (simp [yielded]; done); go_simp) | (refine wpT_calcG rfl rfl ?_ (fun K hK => ?_); focus (simp [yielded]; done)) | (refine wpT_pure (fun K hK => ?_); go_simp; refine hK _ _ ?_; clear hK K) | (refine wpT_plain (by decide) rfl (fun K hK => ?_)) | (refine wpT_deed (by decide) (fun K hK => ?_); go_simp) | (refine wpT_nil ?_))
  refine wpT_keeps hS1 rfl (fun K hK => ?_)
  refine wp_append_ob _ _ rfl (.slice (some ⟨w.heap.size, 0, none⟩) 0 0) (.slice A1 b.length k1) rfl rfl (SO_nil_new w).drew (Rd.chg h1.ro hS1 (fun _ _ h => by cases h)) (by simp; omega) ?_
  intro A2 k2 w2 hs2 hc2 ho2
  have e2 : ([] : List Ob).length + b.length = b.length := by simp
  rw [e2, List.nil_append] at hs2
  rw [e2] at ho2
  rw [e2]
  have hS2 : Chg [] w w2 := hS1.trans hc2 (fun k hk => .inr (by have : k = w.heap.size := (by simpa [Value.ownBlock, eq_comm] using hk); omega))
  refine hK _ _ hS2 ?_
  clear hK K
  go_wp2_with (first | (refine wpT_hload 22 _ rfl rfl rfl (fun w' hw' => load_slice Try.underlying22 (hw'.cell c1 List.not_mem_nil)) hS2 ?_; go_simp) | (refine wpT_plain (by decide) rfl (fun K hK => ?_); refine wp_append_ob _ _ rfl (.slice A2 b.length k2) (.slice A0 a.length k0) rfl rfl hs2 (Rd.chg h0.ro hS2 (fun _ _ h => by cases h)) (by omega) ?_; intro A3 k3 w3 hs3 hc3 ho3; refine hK _ _ ?_; clear hK K) | (refine wpT_calc0 rfl rfl (fun K hK => ?_)) | (refine wpT_skipG rfl ?_ ?_; focus (simp [yielded]; done); go_simp) | (refine wpT_calcG rfl rfl ?_ (fun K hK => ?_); focus (simp [yielded]; done)) | (refine wpT_pure (fun K hK => ?_); go_simp; refine hK _ _ ?_; clear hK K) | (refine wpT_plain (by decide) rfl (fun K hK => ?_)) | (refine wpT_deed (by decide) (fun K hK => ?_); go_simp) | (refine wpT_nil ?_))
  go_ret
  have hA2 : ∀ k, (Value.slice A2 b.length k2).ownBlock = some k → w.heap.size ≤ k := fun k hk => by
    rcases ho2 with e | e
    · rw [hk] at e; simp [Value.ownBlock] at e; omega
    · rw [hk] at e; simp at e; omega
  refine ⟨⟨A3, k3, by simp, by rw [List.length_append]; exact hs3, fun k hk => ?_⟩, hS2.trans hc3 (fun k hk => .inr (hA2 k (by simpa using hk)))⟩
  rw [List.length_append] at hk
  rcases ho3 with e | e
  · exact hA2 k (by rw [← e]; exact hk)
  · rw [hk] at e
    have := hS2.size
    simp at e
    omega
end Go.Proofs.Ytbmdcfeiecmlpaa
