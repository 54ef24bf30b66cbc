import Derived.Test.YtbmdcfeiecmlpaaDepF
namespace Go.Proofs.Ytbmdcfeiecmlpaa
open Go Go.RowKit

theorem made_oc (k : Nat) : (madeCells (Value.agg #[.int .i64 0, .int .i64 0]).cells (k * 2)).toList = oc (List.replicate k (0, 0)) := by
  have e : (Value.agg #[.int .i64 0, .int .i64 0]).cells = #[.int .i64 0, .int .i64 0] := rfl
  rw [e]
  refine List.ext_getElem? fun i => ?_
  unfold madeCells
  by_cases hi : i < k * 2
  · have hr : i % 2 = 0 ∨ i % 2 = 1 := by omega
    have hl : ∀ i, i < k * 2 → (oc (List.replicate k ((0 : Int), (0 : Int))))[i]? = some (.int .i64 0) := by
      intro i hi
      obtain ⟨j, rfl | rfl⟩ : ∃ j, i = j * 2 ∨ i = j * 2 + 1 := ⟨i / 2, by omega⟩
      · rw [oc_get0 _ j (by simp; omega)]; simp
      · rw [oc_get1 _ j (by simp; omega)]; simp
    rw [hl i hi]
    simp only [Array.toList_map, List.getElem?_map, Array.toList_range, List.getElem?_range hi, Option.map_some]
    rcases hr with h | h <;> simp [h]
  · have h1 : (oc (List.replicate k ((0 : Int), (0 : Int)))).length = k * 2 := by rw [oc_length]; simp
    rw [List.getElem?_eq_none (by simp; omega), List.getElem?_eq_none (by omega)]
theorem rep_flat (k : Nat) (m : List Ob) : (List.replicate k m).flatten.length = k * m.length := by simp
theorem rep_snoc {α : Type} (k : Nat) (m : α) : List.replicate k m ++ [m] = List.replicate (k + 1) m := by rw [List.replicate_succ']

set_option maxHeartbeats 2000000 in
theorem full2_any (x : Int) (w : World) : Calls Try.prog 9 #[.int .i64 x] w fun e w' => e = .returned (.bool true) ∧ Chg [] w w' := by
  have hcl := clamp_le x
  obtain ⟨r, hr⟩ : ∃ r, clamp x = r := ⟨_, rfl⟩
  have hn := dst_new x (Chg.refl [] w)
  rw [hr] at hn hcl
  obtain ⟨hr1, hr2⟩ := hcl
  have HN := hide hn
  clear hn hr
  obtain ⟨i28, hi, hz, hi1, hi2⟩ := info_parts info28
  have Hmake : Hid (∀ W : World, _) := hide fun W : World => run_make_sl (size := 2) Try.underlying22 hi hz hi1 rfl W r (by rw [hi2]; omega) (by unfold maxLen; omega)
  clear hi hz hi1 hi2
  go_enter Try.func9, Try.ntmps9
  go_wp2_with fail
  refine HN.out.mono ?_
  rintro e W1 ⟨⟨d, rfl, h1, _⟩, _⟩
  obtain ⟨hrun, hmk⟩ := Hmake.out W1
  go_wp2_with (go_at_call 15; refine (dst_rounds h1).mono ?_; rintro e w' ⟨rfl, rfl⟩)
  have h2 : DSt w (W1.alloc (.cells (madeCells #[.int .i64 0, .int .i64 0] (r * 2)) 28)) d r [] [] (.slice (some ⟨W1.heap.size, 0, none⟩) r r) (List.replicate r (0, 0)) := by
    refine h1.with_ ((Chg.refl [] W1).alloc _) ?_ (fun k hk => by rw [own_mem] at hk; simp [Value.ownBlock] at hk; omega)
    have e := made_oc r
    have e2 : (Value.agg #[.int .i64 0, .int .i64 0]).cells = #[.int .i64 0, .int .i64 0] := rfl
    rw [made_oc] at hmk
    rw [e2] at hmk
    unfold SO
    rw [List.length_replicate]
    exact hmk
  have hml : (List.replicate r ((0 : Int), (0 : Int))).length = r := by simp
  generalize (List.replicate r ((0 : Int), (0 : Int))) = m at h2 hml
  generalize W1.alloc (.cells (madeCells #[.int .i64 0, .int .i64 0] (r * 2)) 28) = W2 at h2 ⊢
  generalize W1.heap.size = g at h2 ⊢
  have Hml := hide hml
  clear h1 hrun hmk hml
  go_loopw [12] (fun i wr => ∃ k : Nat, k ≤ 64 ∧ i = .int .i64 k ∧ DSt w wr d r (List.replicate k m) [] (.slice (some ⟨g, 0, none⟩) r r) m) (fun i _ => 64 - (intOf i).toNat)
  case atStart => exact ⟨0, by omega, rfl, h2⟩
  case round =>
    obtain ⟨k, hk, rfl, h3⟩ := hrel
    by_cases hlt : k < 64
    · go_wp2_with (go_at_call 16; refine (dst_put h3 hr1 (by omega) h3.ro Hml.out (by simp; omega)).mono ?_; rintro e w4 ⟨rfl, h4⟩)
      go_roundw
      case rel => exact ⟨k + 1, by omega, by go_num, by rw [← rep_snoc]; exact h4⟩
      case measure => simp [intOf]; omega
    · obtain rfl : k = 64 := by omega
      have e64 : (List.replicate 64 m).length = 64 := by simp
      have h3' : DSt w wr d r (List.replicate 63 m ++ [m]) [] (.slice (some ⟨g, 0, none⟩) r r) m := by rw [rep_snoc]; exact h3
      have hflat : (dall (List.replicate 64 m) []).length = 64 * r := by unfold dall; rw [List.append_nil, rep_flat, Hml.out]
      have Hfl := hide hflat
      have HE := hide e64
      clear hflat e64
      have hput : Hid (Calls Try.prog 16 #[.pointer (some ⟨d, 0, none⟩), .slice (some ⟨g, 0, none⟩) r r] wr fun e w' => e = .returned (.int .i64 9) ∧ wr = w') := hide (by
        have := dst_put_no h3 hr1 h3.ro (by rw [Hml.out]; omega) (by rw [HE.out]; omega) (.inr (by rw [HE.out]; omega))
        rw [if_neg (by simp [Hml.out])] at this
        exact this)
      have hful : Hid (Calls Try.prog 37 #[.pointer (some ⟨d, 0, none⟩)] wr fun e w' => e = .returned (.int .i64 64) ∧ wr = w') := hide (by
        have := dst_fulls h3
        rw [HE.out] at this
        exact this)
      go_wp2_with (first | (go_at_call 16; refine hput.out.mono ?_; rintro e w' ⟨rfl, rfl⟩) | (go_at_call 37; refine hful.out.mono ?_; rintro e w' ⟨rfl, rfl⟩) | (go_at_call 20; refine (dst_get h3' (by simp)).mono ?_; rintro e w5 ⟨⟨A, c, rfl, hr5, _⟩, h5⟩))
      have h6s := rep_snoc 63 m
      have hmr : ((m.length : Int) == (r : Int)) = true := by rw [Hml.out]; simp
      refine (dst_rounds h5).mono ?_
      rintro e w' ⟨rfl, rfl⟩
      go_wp2_with fail
      refine (dst_put h5 hr1 (by omega) h5.ro Hml.out (by simp)).mono ?_
      rintro e w6 ⟨rfl, h6⟩
      rw [rep_snoc] at h6
      have hput2 : Hid (Calls Try.prog 16 #[.pointer (some ⟨d, 0, none⟩), .slice (some ⟨g, 0, none⟩) r r] w6 fun e w' => e = .returned (.int .i64 9) ∧ w6 = w') := hide (by
        have := dst_put_no h6 hr1 h6.ro (by rw [Hml.out]; omega) (by rw [HE.out]; omega) (.inr (by rw [HE.out]; omega))
        rw [if_neg (by simp [Hml.out])] at this
        exact this)
      clear h6s
      go_wp2_with fail
      refine hput2.out.mono ?_
      rintro e w' ⟨rfl, rfl⟩
      have hal := dst_all h6 (by rw [HE.out]; omega) (by rw [Hfl.out]; omega)
      rw [Hfl.out] at hal
      have HA := hide hal
      clear hal
      go_wp2_with fail
      refine HA.out.mono ?_
      rintro e w7 ⟨⟨A7, c7, rfl, _⟩, h7⟩
      have e7 : ((64 : Int) * (r : Int) == ((64 * r : Nat) : Int)) = true := by simp
      have e8 : (((64 * r : Nat) : Int) == (64 : Int) * (r : Int)) = true := by simp
      go_wp2_with (first | (go_at_call 15; refine (dst_rounds h7).mono ?_; rintro e w' ⟨rfl, rfl⟩) | (go_at_call 13; refine (dknown_any _).mono ?_; rintro e w8 ⟨rfl, hc8⟩))
      go_ret
      exact ⟨rfl, h7.below.trans hc8 (fun _ h => by cases h)⟩
end Go.Proofs.Ytbmdcfeiecmlpaa
