import Derived.Test.YtbmdcfeiecmlpaaDKpA
namespace Go.Proofs.Ytbmdcfeiecmlpaa
open Go Go.RowKit

set_option maxHeartbeats 1000000 in
theorem take_ok {w : World} {vm : Value} {M : List Ob} (hm : SO w vm M) (tog : Bool) {sb tb g off n c : Nat} {t : Int} {R : List Int} (hsb : Blk w sb 56 #[.slice (some ⟨g, off, none⟩) n c]) (htb : Blk w tb 3 #[.int .i64 t])
    (hS : SI w (.slice (some ⟨g, off, none⟩) n c) (tal n (M.map Prod.fst ++ R))) (hnd : (M.map Prod.fst ++ R).Nodup) (hr : ∀ o ∈ M, 0 ≤ o.1 ∧ o.1 < (n : Int)) (hn : n ≤ 100000) (hM : M.length ≤ 100000) (ht : -1000000 ≤ t ∧ t ≤ 1000000) (hgt : g ≠ tb)
    (htog : tog = true → ∀ (k : Nat) (h : k < M.length), M[k].1 = (M[0]'(by omega)).1 + k) :
    Calls Try.prog 45 #[vm, .bool tog, .pointer (some ⟨sb, 0, none⟩), .pointer (some ⟨tb, 0, none⟩)] w fun e w' => e = .returned (.bool true) ∧ SI w' (.slice (some ⟨g, off, none⟩) n c) (tal n R) ∧ Blk w' tb 3 #[.int .i64 (t - M.length)] ∧ Chg [g, tb] w w' := by
  obtain ⟨A, k0, rfl⟩ := hm.form
  obtain ⟨ht1, ht2⟩ := ht
  have Hnd := hide hnd
  have Hr := hide hr
  have Htog := hide htog
  clear hnd hr htog
  go_enter Try.func45, Try.ntmps45
  go_wp2_with fail
  have hsg : sb ≠ g := fun e => by
    obtain ⟨cur, hb⟩ := Sl.blk hS (k := g) (by simp [own, Value.ownBlock])
    subst e
    exact hsb.ne_ hb (by decide) rfl
  have hst : sb ≠ tb := fun e => by subst e; exact hsb.ne_ htb (by decide) rfl
  have hmg : ∀ k, (Value.slice A M.length k0).ownBlock = some k → k ∉ [g] := fun k hk e => by
    obtain rfl := List.mem_singleton.1 e
    obtain ⟨cur, hb⟩ := Sl.blk hS (k := k) (by simp [own, Value.ownBlock])
    obtain ⟨cur', hb'⟩ := Sl.blk hm (own_mem.2 hk)
    exact hb.ne_ hb' (by decide) rfl
  go_loopw [11] (fun i wr => ∃ j : Nat, j ≤ M.length ∧ i = .int .i64 j ∧ SI wr (.slice (some ⟨g, off, none⟩) n c) (tal n ((M.drop j).map Prod.fst ++ R)) ∧ Chg [g] w wr) (fun i _ => M.length - (intOf i).toNat)
  case atStart => exact ⟨0, Nat.zero_le _, rfl, by simpa using hS, Chg.refl _ _⟩
  case round =>
    obtain ⟨j, hj, rfl, hs, hc⟩ := hrel
    have s0 := (hsb.chg hc (by simp [hsg])).cell 0
    have t0 := (htb.chg hc (by simp [Ne.symm hgt])).cell 0
    have tf := (htb.chg hc (by simp [Ne.symm hgt])).frozen 0
    simp at s0 t0
    by_cases hjt : j < M.length
    · obtain ⟨gm, om, rfl⟩ := SO.addr hm (by omega)
      have hmr := (Sl.chg hm hc hmg)
      have q0 := (RO.cellsN (SO.ro hmr) hjt).1
      have q00 := (RO.cellsN (SO.ro hmr) (k := 0) (by omega)).1
      obtain ⟨f, hf, hfn⟩ : ∃ f : Nat, M[j].1 = (f : Int) ∧ f < n := by
        have := Hr.out _ (List.getElem_mem hjt)
        exact ⟨(M[j].1).toNat, by omega, by omega⟩
      have edrop : (M.drop j).map Prod.fst ++ R = (f : Int) :: ((M.drop (j + 1)).map Prod.fst ++ R) := by rw [List.drop_eq_getElem_cons hjt, List.map_cons, hf]; rfl
      have hnd2 : ((f : Int) :: ((M.drop (j + 1)).map Prod.fst ++ R)).Nodup := by
        rw [← edrop]
        have h := Hnd.out
        rw [← List.take_append_drop j M, List.map_append, List.append_assoc] at h
        exact (List.nodup_append.1 h).2.1
      rw [edrop] at hs
      have hft : f < (tal n ((f : Int) :: ((M.drop (j + 1)).map Prod.fst ++ R))).length := by rw [tal_length]; exact hfn
      have q1 := RI.cell hs.ri hft
      rw [tal_one hnd2] at q1
      have q2 := SI.frozen hs (off + f)
      have hset := SI.set_ hs hft 0
      rw [tal_off hnd2] at hset
      have Hset := hide hset
      rw [hf] at q0
      have hf0 : ¬ ((f : Int) < 0) := by omega
      have hfn2 : ¬ ((n : Int) ≤ (f : Int)) := by omega
      simp only [Nat.zero_mul, Nat.add_zero] at q00
      obtain ⟨b, hb⟩ : ∃ b : Int, (M[0]'(by omega)).1 = b := ⟨_, rfl⟩
      rw [hb] at q00
      have hfb : tog = true → (f : Int) = b + j := fun h => by rw [← hf, ← hb]; exact Htog.out h j hjt
      obtain ⟨hb1, hb2⟩ : 0 ≤ b ∧ b ≤ 100000 := by
        have := Hr.out _ (List.getElem_mem (show 0 < M.length by omega))
        rw [hb] at this
        omega
      have HB := hide hb
      clear hb
      have HF := hide hf
      clear hf edrop hnd2 hset
      cases tog
      · clear hfb
        go_wp2_with fail
        all_goals
          go_roundw
          case rel => exact ⟨j + 1, by omega, by go_num, Hset.out, hc.setCell (.inl (by simp)) _⟩
          case measure => simp [intOf]; omega
      · have e := hfb rfl
        clear hfb
        have hfe : ((f : Int) != b + (j : Int)) = false := by simp [e]
        have He := hide e
        clear e
        go_wp2_with fail
        all_goals
          go_roundw
          case rel => exact ⟨j + 1, by omega, by go_num, Hset.out, hc.setCell (.inl (by simp)) _⟩
          case measure => simp [intOf]; omega
    · have ej : M.drop j = [] := List.drop_eq_nil_of_le (by omega)
      rw [ej] at hs
      clear ej
      go_wp2_with fail
      go_ret
      have hbt := (htb.chg hc (by simp [Ne.symm hgt])).set_ 0 (.int .i64 (t - (M.length : Int)))
      exact ⟨rfl, Sl.far hs (p := ⟨tb, 0, none⟩) (fun e => hgt (by simpa [Value.ownBlock] using e)) _, by simpa using hbt, (hc.mono (fun x hx => .inl (by simp at hx ⊢; exact .inl hx))).setCell (.inl (by simp)) _⟩

/-- of no object: nothing is asked of the tally -/
theorem take_none {w : World} {A : Option Addr} {k0 : Nat} (tog : Bool) {sb tb : Nat} {t : Int} (htb : Blk w tb 3 #[.int .i64 t]) (ht : -1000000 ≤ t ∧ t ≤ 1000000) :
    Calls Try.prog 45 #[.slice A 0 k0, .bool tog, .pointer (some ⟨sb, 0, none⟩), .pointer (some ⟨tb, 0, none⟩)] w fun e w' => e = .returned (.bool true) ∧ Blk w' tb 3 #[.int .i64 t] ∧ Chg [tb] w w' := by
  obtain ⟨ht1, ht2⟩ := ht
  have t0 := htb.cell 0
  have tf := htb.frozen 0
  simp at t0
  go_enter Try.func45, Try.ntmps45
  go_wp2_with fail
  go_loopw [11] (fun i wr => i = .int .i64 0 ∧ wr = w) (fun _ _ => 0)
  case atStart => exact ⟨rfl, rfl⟩
  case round =>
    obtain ⟨rfl, rfl⟩ := hrel
    go_wp2_with fail
    go_ret
    have hbt := htb.set_ 0 (.int .i64 t)
    exact ⟨rfl, by simpa using hbt, (Chg.refl _ _).setCell (.inl (by simp)) _⟩
end Go.Proofs.Ytbmdcfeiecmlpaa
