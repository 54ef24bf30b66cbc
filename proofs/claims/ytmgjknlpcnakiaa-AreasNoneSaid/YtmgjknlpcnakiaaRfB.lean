/- The document's areas: Runs: page by page. -/
import Derived.Test.YtmgjknlpcnakiaaRfA
namespace Go.Proofs.Ytmgjknlpcnakiaa
open Go Go.RowKit

/-- the runs of the pages ahead of k -/
structure RI (f : Int → Int) (k : Nat) (m : List Rn) : Prop where
  nm : Nm 0 0 m
  all : ∀ q, rt m q = if 0 ≤ q ∧ q < k then f q else 0
  le : (fin 0 0 m).1 ≤ k
  at_ : (fin 0 0 m).1 = k → (k = 0 ∧ (fin 0 0 m).2 = 0) ∨ (0 < k ∧ (fin 0 0 m).2 = f ((k : Int) - 1))
  last : 0 < k → f ((k : Int) - 1) ≠ 0 → m ≠ [] ∧ fin 0 0 m = ((k : Int), f ((k : Int) - 1))
  len : m.length ≤ k
theorem RI.zero (f : Int → Int) : RI f 0 [] := ⟨trivial, fun q => by rw [if_neg (by omega)]; rfl, Int.le_refl _, fun _ => .inl ⟨rfl, rfl⟩, fun h => by omega, Nat.le_refl _⟩
theorem RI.skip {f : Int → Int} {k : Nat} {m : List Rn} (h : RI f k m) (h0 : f k = 0) : RI f (k + 1) m := by
  have e : ((k + 1 : Nat) : Int) - 1 = k := by omega
  refine ⟨h.nm, fun q => ?_, by have := h.le; omega, fun e => by have := h.le; omega, fun _ hn => ?_, by have := h.len; omega⟩
  · rw [h.all]
    by_cases hq : 0 ≤ q ∧ q < k
    · rw [if_pos hq, if_pos (by omega)]
    · rw [if_neg hq]
      by_cases hq2 : 0 ≤ q ∧ q < ((k + 1 : Nat) : Int)
      · rw [if_pos hq2, show q = k by omega, h0]
      · rw [if_neg hq2]
  · rw [e] at hn; exact absurd h0 hn
theorem RI.new {f : Int → Int} {k : Nat} {m : List Rn} (h : RI f k m) (h0 : f k ≠ 0) (h1 : k = 0 ∨ f ((k : Int) - 1) ≠ f k) : RI f (k + 1) (m ++ [⟨k, 1, f k⟩]) := by
  have e : ((k + 1 : Nat) : Int) - 1 = k := by omega
  have hn : Nm 0 0 (m ++ [⟨(k : Int), 1, f k⟩]) := by
    rw [nm_snoc]
    refine ⟨h.nm, h.le, by show (1 : Int) ≤ 1; omega, h0, fun he => ?_⟩
    show f k ≠ _
    rcases h.at_ he.symm with ⟨a, b⟩ | ⟨a, b⟩
    · rw [b]; exact h0
    · rw [b]
      rcases h1 with h1 | h1
      · omega
      · exact fun x => h1 x.symm
  have hf := fin_snoc 0 0 m ⟨(k : Int), 1, f k⟩
  have ee : (⟨(k : Int), 1, f k⟩ : Rn).e = ((k + 1 : Nat) : Int) := by show (k : Int) + 1 = _; omega
  rw [ee] at hf
  refine ⟨hn, fun q => ?_, by rw [hf]; exact Int.le_refl _, fun _ => .inr ⟨by omega, by rw [hf, e]⟩, fun _ _ => ⟨by simp, by rw [hf, e]⟩, by have := h.len; simp; omega⟩
  rw [rt_snoc hn, ee, h.all]
  by_cases hq : (k : Int) ≤ q ∧ q < ((k + 1 : Nat) : Int)
  · rw [if_pos (c := (k : Int) ≤ q ∧ q < ((k + 1 : Nat) : Int)) hq, if_pos (by omega), show q = k by omega]
  · rw [if_neg (c := (k : Int) ≤ q ∧ q < ((k + 1 : Nat) : Int)) hq]
    by_cases hq2 : 0 ≤ q ∧ q < k
    · rw [if_pos hq2, if_pos (by omega)]
    · rw [if_neg hq2, if_neg (by omega)]
theorem RI.more {f : Int → Int} {k : Nat} {m : List Rn} (h : RI f k m) (h0 : f k ≠ 0) (hk : 0 < k) (h1 : f ((k : Int) - 1) = f k) : ∃ l x, m = l ++ [x] ∧ RI f (k + 1) (l ++ [⟨x.p, x.c + 1, x.g⟩]) ∧ 0 ≤ x.c ∧ x.c ≤ (k : Int) := by
  have e : ((k + 1 : Nat) : Int) - 1 = k := by omega
  obtain ⟨hm, hf⟩ := h.last hk (by rw [h1]; exact h0)
  rcases List.eq_nil_or_concat m with rfl | ⟨l, x, rfl⟩
  · exact absurd rfl hm
  rw [List.concat_eq_append] at h hf ⊢
  have hn := h.nm
  rw [fin_snoc] at hf
  have hxe : x.p + x.c = k := congrArg Prod.fst hf
  have hxg : x.g = f k := by rw [← h1]; exact congrArg Prod.snd hf
  rw [nm_snoc] at hn
  obtain ⟨n1, n2, n3, n4, n5⟩ := hn
  have n6 := fin_lo n1
  have hn' : Nm 0 0 (l ++ [⟨x.p, x.c + 1, x.g⟩]) := by
    rw [nm_snoc]
    exact ⟨n1, n2, by show 1 ≤ x.c + 1; omega, n4, n5⟩
  have ee : (⟨x.p, x.c + 1, x.g⟩ : Rn).e = ((k + 1 : Nat) : Int) := by show x.p + (x.c + 1) = _; omega
  have ex : x.e = (k : Int) := hxe
  refine ⟨l, x, rfl, ⟨hn', fun q => ?_, by rw [fin_snoc, ee]; exact Int.le_refl _, fun _ => .inr ⟨by omega, by rw [fin_snoc, e]; exact hxg⟩, fun _ _ => ⟨by simp, by rw [fin_snoc, ee, e]; rw [← hxg]⟩, by have := h.len; simp at this ⊢; omega⟩, by omega, by omega⟩
  have hr := h.all q
  rw [rt_snoc h.nm, ex] at hr
  rw [rt_snoc hn', ee]
  show (if x.p ≤ q ∧ q < ((k + 1 : Nat) : Int) then x.g else rt l q) = _
  by_cases hq : q = k
  · subst hq
    rw [if_pos (by omega), if_pos (by omega), hxg]
  · by_cases hq2 : x.p ≤ q ∧ q < k
    · rw [if_pos hq2] at hr
      rw [if_pos (by omega), hr, if_pos (by omega), if_pos (by omega)]
    · rw [if_neg hq2] at hr
      rw [if_neg (by omega), hr]
      by_cases hq3 : 0 ≤ q ∧ q < k
      · rw [if_pos hq3, if_pos (by omega)]
      · rw [if_neg hq3, if_neg (by omega)]
theorem RI.done {f : Int → Int} {m l : List Rn} (h : RI f 1024 m) (hl : Nm 0 0 l) (hf : ∀ q, rt l q = if 0 ≤ q ∧ q < 1024 then f q else 0) : m = l :=
  nm_ext h.nm hl fun q => by rw [h.all, hf]; rfl
set_option maxHeartbeats 4000000 in
theorem Runs_any {w : World} {b : Nat} {f : Int → Int} (h : PA w b f) {l : List Rn} (hl : Nm 0 0 l) (hf : ∀ q, rt l q = if 0 ≤ q ∧ q < 1024 then f q else 0) :
    Calls Try.prog 37 #[.pointer (some ⟨b, 0, none⟩)] w fun e w' => ∃ A n c, e = .returned (.slice A n c) ∧ SR w' (.slice A n c) l ∧ (∀ k ∈ own (.slice A n c), w.heap.size ≤ k) ∧ Chg [] w w' := by
  have H := hide h
  have hlt := h.lt
  have HD : Hid (∀ m, RI f 1024 m → m = l) := hide fun m hm => hm.done hl hf
  clear h hl hf
  go_enter Try.func37, Try.ntmps37
  go_wp2_with fail
  go_loopw [3, 4] (fun v i wr => ∃ (k : Nat) (A : Option Addr) (n c : Nat) (m : List Rn), k ≤ 1024 ∧ i = .int .i64 k ∧ v = .slice A n c ∧ Hid (RI f k m) ∧ Hid (SR wr (.slice A n c) m) ∧ Hid (∀ k ∈ own (.slice A n c), w.heap.size ≤ k) ∧ Chg [] w wr) (fun _ i _ => 1024 - (intOf i).toNat)
  case atStart => exact ⟨0, none, 0, 0, [], by omega, rfl, rfl, hide (RI.zero f), hide (SE.nil _ _ _ _), hide (fun _ h => (own_nil h).elim), Chg.refl _ _⟩
  case round =>
    obtain ⟨k, A, n, c, m, hk, rfl, rfl, hri, hsr, hown, hch⟩ := hrel
    by_cases hkt : k < 1024
    · have hkb1 : (0 : Int) ≤ (k : Int) := by omega
      have hkb2 : (k : Int) < 1024 := by omega
      obtain ⟨x, hx⟩ : ∃ x, x = f (k : Int) := ⟨_, rfl⟩
      have hg := PA.get (H.out.chg hch List.not_mem_nil) hkt
      rw [← hx] at hg
      have Hx := hide hx
      clear hx
      by_cases h0 : x = 0
      · subst h0
        go_wp2_with fail
        go_roundw
        case rel => exact ⟨k + 1, A, n, c, m, by omega, by go_num, rfl, hide (hri.out.skip Hx.out.symm), hsr, hown, hch⟩
        case measure => simp [intOf]; omega
      · have h1 : (x == 0) = false := by simpa using h0
        obtain ⟨y, hy⟩ : ∃ y, y = f ((k : Int) - 1) := ⟨_, rfl⟩
        have Hy := hide hy
        by_cases hk0 : 0 < k
        · have hg1 := PA.get (H.out.chg hch List.not_mem_nil) (i := k - 1) (by omega)
          have ek : ((k - 1 : Nat) : Int) = (k : Int) - 1 := by omega
          rw [ek, ← hy] at hg1
          have hk1 : (0 : Int) ≤ (k : Int) - 1 := by omega
          have hk2 : (k : Int) - 1 < 1024 := by omega
          have hk3 : ((k : Int) - 1).toNat = k - 1 := by omega
          have hk4 : decide (0 < (k : Int)) = true := decide_eq_true (by omega)
          by_cases hyx : y = x
          · subst hyx
            obtain ⟨l', r, rfl, hri', hc0, hc1⟩ := hri.out.more (by rw [← Hx.out]; exact h0) hk0 (by rw [← Hy.out, ← Hx.out])
            obtain ⟨nn, hnn⟩ : ∃ nn, l'.length = nn := ⟨_, rfl⟩
            have hlen := hri.out.len
            have en : (l' ++ [r]).length = nn + 1 := by simp [hnn]
            have hs := hsr.out
            obtain ⟨A', c', e'⟩ := hs.form
            obtain rfl : n = nn + 1 := by injection e' with _ e2 _; omega
            clear e' A' c'
            obtain ⟨g0, off, rfl⟩ := SE.addr hs (Nat.succ_pos nn)
            obtain ⟨q0, q1, q2⟩ := RR.cells hs.re (k := nn) (by omega)
            have ex : (l' ++ [r])[nn]'(by omega) = r := by subst hnn; simp
            have e3 : (l' ++ [r]).set nn ⟨r.p, r.c + 1, r.g⟩ = l' ++ [⟨r.p, r.c + 1, r.g⟩] := by subst hnn; simp
            rw [ex] at q0 q1 q2
            have Hset : Hid (∀ W, SR W (.slice (some ⟨g0, off, none⟩) (nn + 1) c) (l' ++ [r]) → SR (W.setCell ⟨g0, off + (nn * 3 + 1), none⟩ (.int .i64 (r.c + 1))) (.slice (some ⟨g0, off, none⟩) (nn + 1) c) (l' ++ [⟨r.p, r.c + 1, r.g⟩])) := hide fun W hW => by
              have := SE.set rc_len hW (k := nn) (j := 1) (by omega) (by omega) (u := .int .i64 (r.c + 1)) (x := ⟨r.p, r.c + 1, r.g⟩) (by rw [ex]; rfl)
              rw [e3] at this
              exact this
            have hgl : g0 < wr.heap.size := hs.own_lt g0 (by simp [own, Value.ownBlock])
            have hn2 : nn ≤ 1024 := by omega
            have hfz := hs.frozen (off + nn * 3 + 1)
            have Hri := hide hri'
            have hrc1 : 0 ≤ r.c ∧ r.c ≤ 1024 := by omega
            obtain ⟨rc1, rc2⟩ := hrc1
            clear en ex e3 hs hri' hlen hnn hc0 hc1 hri
            obtain ⟨rp, rcc, rg⟩ := r
            simp only at *
            clear hy
            go_wp2_with fail
            refine wp_region_t [0, 0, 0, 0, 0, 0, 0, 0, 1, 0, 0, 0, 0, 1, 0, 0] [none, none, none, some (17, true), some (17, true), some (17, true), some (17, true), some (17, true), some (17, true), some (17, true), some (17, true), some (17, true), some (17, true), some (17, true), some (17, true), none] (fun _ => True) (by kernel_rfl) (by kernel_rfl) (by kernel_rfl) ?_
            go_wp2_with (first | fail | (refine wpG_calc rfl (fun K hK => ?_)) | (refine wpG_skip ?_ ?_; (focus (simp [wantG]; done)); go_simp) | (refine wpG_take ?_ ?_; (focus (simp [wantG]; done))) | (refine wpG_pure (fun K hK => ?_); go_simp; refine hK _ _ ?_; clear hK K) | (refine wpG_deed (by decide) (fun K hK => ?_); go_simp) | (refine wpG_nil ?_))
            go_roundw
            case rel => exact ⟨k + 1, some ⟨g0, off, none⟩, nn + 1, c, _, by omega, by go_num, rfl, Hri, hide (Hset.out _ (hsr.out.stay (Chg.refl [] wr))), hown, (hch.setCell (p := ⟨g0, off + nn * 3 + 1, none⟩) (.inr (hown.out g0 (by simp [own, Value.ownBlock]))) _).drew⟩
            case measure => simp [intOf]; omega
          · have hyx' : (y == x) = false := by simpa using hyx
            have hri' := hri.out.new (by rw [← Hx.out]; exact h0) (.inr (by rw [← Hx.out, ← Hy.out]; exact hyx))
            rw [← Hx.out] at hri'
            have Hri := hide hri'
            have hlen := hri.out.len
            have Hlen : Hid (m.length + [(⟨(k : Int), 1, x⟩ : Rn)].length ≤ 1000000) := hide (by simp; omega)
            clear hri' hlen hy hri
            go_wp2_with fail
            refine wp_region_t [0, 0, 0, 0, 0, 0, 0, 0, 1, 0, 0, 0, 0, 1, 0, 0] [none, none, none, some (17, true), some (17, true), some (17, true), some (17, true), some (17, true), some (17, true), some (17, true), some (17, true), some (17, true), some (17, true), some (17, true), some (17, true), none] (fun _ => True) (by kernel_rfl) (by kernel_rfl) (by kernel_rfl) ?_
            go_wp2_with (first | (at_builtin; refine wpList_append_rn rfl _ _ rfl (.slice A n c) _ rfl rfl (l := m) (m := [⟨(k : Int), 1, x⟩]) (hsr.out.stay ((Chg.refl [] wr).alloc _).drew) (Rd.drew (RR_one wr k 1 x)) Hlen.out ?_; intro A9 n9 c9 W9 hn9 hs9 hc9 hg9) | (refine wpG_calc rfl (fun K hK => ?_)) | (refine wpG_skip ?_ ?_; (focus (simp [wantG]; done)); go_simp) | (refine wpG_take ?_ ?_; (focus (simp [wantG]; done))) | (refine wpG_pure (fun K hK => ?_); go_simp; refine hK _ _ ?_; clear hK K) | (refine wpG_deed (by decide) (fun K hK => ?_); go_simp) | (refine wpG_nil ?_))
            go_roundw
            case rel => exact ⟨k + 1, A9, n9, c9, _, by omega, by go_num, rfl, Hri, hide hs9, hide (fun j hj => (hg9 j hj).elim (hown.out j) (fun h => by have := hch.size; simp at h; omega)), ((hch.alloc _).drew).trans hc9 (fun j hj => .inr (hown.out j hj))⟩
            case measure => simp [intOf]; omega
        · obtain rfl : k = 0 := by omega
          have hri' := hri.out.new (by rw [← Hx.out]; exact h0) (.inl rfl)
          rw [← Hx.out] at hri'
          have Hri : Hid (RI f (0 + 1) (m ++ [⟨0, 1, x⟩])) := hide hri'
          have hlen := hri.out.len
          have Hlen : Hid (m.length + [(⟨0, 1, x⟩ : Rn)].length ≤ 1000000) := hide (by simp; omega)
          clear hri' hlen hy hri
          go_wp2_with fail
          refine wp_region_t [0, 0, 0, 0, 0, 0, 0, 0, 1, 0, 0, 0, 0, 1, 0, 0] [none, none, none, some (17, true), some (17, true), some (17, true), some (17, true), some (17, true), some (17, true), some (17, true), some (17, true), some (17, true), some (17, true), some (17, true), some (17, true), none] (fun _ => True) (by kernel_rfl) (by kernel_rfl) (by kernel_rfl) ?_
          go_wp2_with (first | (at_builtin; refine wpList_append_rn rfl _ _ rfl (.slice A n c) _ rfl rfl (l := m) (m := [⟨0, 1, x⟩]) (hsr.out.stay ((Chg.refl [] wr).alloc _).drew) (Rd.drew (RR_one wr 0 1 x)) Hlen.out ?_; intro A9 n9 c9 W9 hn9 hs9 hc9 hg9) | (refine wpG_calc rfl (fun K hK => ?_)) | (refine wpG_skip ?_ ?_; (focus (simp [wantG]; done)); go_simp) | (refine wpG_take ?_ ?_; (focus (simp [wantG]; done))) | (refine wpG_pure (fun K hK => ?_); go_simp; refine hK _ _ ?_; clear hK K) | (refine wpG_deed (by decide) (fun K hK => ?_); go_simp) | (refine wpG_nil ?_))
          go_roundw
          case rel => exact ⟨0 + 1, A9, n9, c9, _, by omega, by go_num, rfl, Hri, hide hs9, hide (fun j hj => (hg9 j hj).elim (hown.out j) (fun h => by have := hch.size; simp at h; omega)), ((hch.alloc _).drew).trans hc9 (fun j hj => .inr (hown.out j hj))⟩
          case measure => simp [intOf]
    · obtain rfl : k = 1024 := by omega
      go_wp2_with fail
      go_ret
      obtain rfl := HD.out m hri.out
      exact ⟨A, n, c, rfl, hsr.out, hown.out, hch⟩
end Go.Proofs.Ytmgjknlpcnakiaa
