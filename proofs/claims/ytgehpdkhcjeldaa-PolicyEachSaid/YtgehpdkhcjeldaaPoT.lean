/- The document's Order: what it tells is new. -/
import Derived.Test.YtgehpdkhcjeldaaCfT
namespace Go.Proofs.Ytgehpdkhcjeldaa
open Go Go.RowKit

def RoF (c : Cf) (node : Nat) (w : World) (e : Ending) (w' : World) : Prop := ∃ A m cap L, e = .returned (.slice A m cap) ∧ SI w' (.slice A m cap) L ∧ IsOrd c node (c 0).toNat L ∧ (∀ k ∈ own (.slice A m cap), w.heap.size ≤ k) ∧ Chg [] w w'
set_option maxRecDepth 20000 in
set_option maxHeartbeats 4000000 in
theorem rOrderF_any {c : Cf} (hM : MayP c) (node : Nat) (hnode : (node : Int) < c 0) (w : World) : Calls Try.prog 17 #[.agg (cg c), .int .i64 node] w (RoF c node w) := by
  obtain ⟨n, hn⟩ : ∃ n : Nat, c 0 = n := ⟨(c 0).toNat, by have := hM.n1; omega⟩
  have hn8 : n ≤ 8 := by have := hM.n8; omega
  have hv8 : node < 8 := by omega
  have HN := hide hn
  have HB : Hid (CB ((w.alloc (.cells (cg c) 26)).alloc (.cells (sb (fun _ => false)) 39)) w.heap.size c) := hide ((Blk.new w 26 (cg c)).alloc _)
  have HS : Hid (SB ((w.alloc (.cells (cg c) 26)).alloc (.cells (sb (fun _ => false)) 39)) (w.heap.size + 1) (fun _ => false)) := hide (by
    have := Blk.new (w.alloc (.cells (cg c) 26)) 39 (sb (fun _ => false))
    rwa [World.size_alloc] at this)
  have HC : Hid (Chg [] w ((w.alloc (.cells (cg c) 26)).alloc (.cells (sb (fun _ => false)) 39))) := hide (((Chg.refl [] w).alloc _).alloc _)
  have nn : (n : Int) ≤ 8 := by omega
  have v1 : (0 : Int) ≤ (node : Int) := by omega
  have v2 : (node : Int) < 8 := by omega
  clear hM hn hnode
  go_enter Try.func17, Try.ntmps17
  go_wp2_with (first | (refine wpList_box26 rfl _ rfl rfl ?_) | (refine wpList_alloc39 rfl rfl ?_; try simp only [World.size_alloc]))
  obtain ⟨W, hW⟩ : ∃ W, W = (w.alloc (.cells (cg c) 26)).alloc (.cells (sb (fun _ => false)) 39) := ⟨_, rfl⟩
  rw [← hW] at HB HS HC ⊢
  have hws : W.heap.size = w.heap.size + 1 + 1 := by rw [hW]; simp
  clear hW
  obtain ⟨b, hbe⟩ : ∃ b, b = w.heap.size := ⟨_, rfl⟩
  obtain ⟨bd, hde⟩ : ∃ bd, bd = w.heap.size + 1 := ⟨_, rfl⟩
  have hbd : b ≠ bd := by omega
  have hdb : bd ≠ b := by omega
  have hwd : w.heap.size ≤ bd := by omega
  have hbW : b < W.heap.size := by omega
  have hdW : bd < W.heap.size := by omega
  have hwW : w.heap.size ≤ W.heap.size := by omega
  rw [← hde, ← hbe]
  rw [← hbe] at HB
  rw [← hde] at HS
  clear hbe hde hws
  go_loopw [5] (fun s wr => ∃ (A : Option Addr) (m cap : Nat) (L : List Nat) (f : Nat → Bool), s = .slice A m cap ∧ m ≤ n ∧ Hid (m = L.length) ∧ Hid (SI wr (.slice A m cap) L) ∧ Hid (∀ j ∈ own (.slice A m cap), W.heap.size ≤ j) ∧ Hid (Sel c node n L) ∧ Hid (SB wr bd f) ∧ Hid (∀ v, f v = true ↔ v ∈ L) ∧ Chg [bd] W wr) (fun s _ => n - slen s)
  case atStart => exact ⟨none, 0, 0, [], fun _ => false, rfl, by omega, hide rfl, hide (SE.nil _ _ _ _), hide (fun _ h => (own_nil h).elim), hide (Sel.nil c node n), HS, hide (by simp), Chg.refl _ _⟩
  case round =>
    obtain ⟨A, m, cap, L, f, rfl, hmn, hml, hs, hown, hsel, hf, hfv, hch⟩ := hrel
    have HBr := hide (HB.out.chg hch (by simp; exact hbd))
    have g0 := CB.get HBr.out (i := 0) (by omega)
    rw [HN.out] at g0
    have hbr := HBr.out.lt
    have hdr := hf.out.lt
    by_cases hlt : m < n
    · go_wp2_with fail
      go_loopw [7, 8] (fun x i wr' => ∃ (k : Nat) (z : Int), k ≤ n ∧ x = .int .i64 z ∧ i = .int .i64 k ∧ Hid (BestP c node k L z) ∧ Chg [] wr wr') (fun _ i _ => n - (intOf i).toNat)
      case atStart => exact ⟨0, -1, by omega, rfl, rfl, hide (BestP.zero c node L), Chg.refl _ _⟩
      case round =>
        obtain ⟨k, z, hk, rfl, rfl, hB, hch2⟩ := hrel
        have HB2 := hide (HBr.out.chg hch2 List.not_mem_nil)
        have HF2 := hide (show SB wr bd f from hf.out.chg hch2 List.not_mem_nil)
        have g2 := CB.get HB2.out (i := 0) (by omega)
        rw [HN.out] at g2
        have hb2 := HB2.out.lt
        have hd2 := HF2.out.lt
        by_cases hkt : k < n
        · have k1 : (0 : Int) ≤ (k : Int) := by omega
          have k2 : (k : Int) < 8 := by omega
          have fk := HF2.out.get (i := k) (by omega)
          cases hfk : f k with
          | true =>
            rw [hfk] at fk
            have HM := hide ((hfv.out k).1 hfk)
            clear hfk
            go_wp2_with fail
            refine wp_region_t [0, 0, 1, 0, 0, 0, 0, 0, 0, 0, 0, 0, 0, 1, 0, 0, 0, 0, 0, 1, 0, 0, 0] [none, none, none, none, none, some (24, true), some (24, true), some (24, true), some (27, false), some (27, false), some (27, false), some (27, false), some (27, false), some (27, false), some (27, false), some (27, false), some (27, false), some (27, false), some (27, false), some (27, false), some (27, false), some (24, true), none] (fun _ => True) (by kernel_rfl) (by kernel_rfl) (by kernel_rfl) ?_
            go_wp2_with (first | (refine wpG_skip ?_ ?_; (focus (simp [wantG, undef]; done)); go_simp) | (refine wpG_calc rfl (fun K hK => ?_)) | (refine wpG_skip ?_ ?_; (focus (simp [wantG]; done)); go_simp) | (refine wpG_take ?_ ?_; (focus (simp [wantG]; done))) | (refine wpG_pure (fun K hK => ?_); go_simp; refine hK _ _ ?_; clear hK K) | (refine wpG_deed (by decide) (fun K hK => ?_); go_simp) | (refine wpG_nil ?_))
            go_roundw
            case rel => exact ⟨k + 1, z, by omega, rfl, by go_num, hide (hB.out.skip HM.out), hch2.drew⟩
            case measure => simp [intOf]; omega
          | false =>
            rw [hfk] at fk
            have HM := hide (show k ∉ L from fun h => by rw [(hfv.out k).2 h] at hfk; cases hfk)
            clear hfk
            rcases hB.out with ⟨rfl, _⟩ | ⟨bb, rfl, hbk, _, _⟩
            · go_wp2_with fail
              refine wp_region_t [0, 0, 1, 0, 0, 0, 0, 0, 0, 0, 0, 0, 0, 1, 0, 0, 0, 0, 0, 1, 0, 0, 0] [none, none, none, none, none, some (24, true), some (24, true), some (24, true), some (27, false), some (27, false), some (27, false), some (27, false), some (27, false), some (27, false), some (27, false), some (27, false), some (27, false), some (27, false), some (27, false), some (27, false), some (27, false), some (24, true), none] (fun _ => True) (by kernel_rfl) (by kernel_rfl) (by kernel_rfl) ?_
              go_wp2_with (first | (refine wpG_skip ?_ ?_; (focus (simp [wantG, undef]; done)); go_simp) | (refine wpG_calc rfl (fun K hK => ?_)) | (refine wpG_skip ?_ ?_; (focus (simp [wantG]; done)); go_simp) | (refine wpG_take ?_ ?_; (focus (simp [wantG]; done))) | (refine wpG_pure (fun K hK => ?_); go_simp; refine hK _ _ ?_; clear hK K) | (refine wpG_deed (by decide) (fun K hK => ?_); go_simp) | (refine wpG_nil ?_))
              go_roundw
              case rel => exact ⟨k + 1, k, by omega, rfl, by go_num, hide (hB.out.first HM.out), hch2.drew⟩
              case measure => simp [intOf]; omega
            · have e1 := CB.get HB2.out (i := 26 + node * 8 + k) (by omega)
              have e2 := CB.get HB2.out (i := 26 + node * 8 + bb) (by omega)
              obtain ⟨da, ha⟩ : ∃ x, ds c node k = x := ⟨_, rfl⟩
              obtain ⟨db, hb⟩ : ∃ x, ds c node bb = x := ⟨_, rfl⟩
              rw [show c (26 + node * 8 + k) = da from ha] at e1
              rw [show c (26 + node * 8 + bb) = db from hb] at e2
              have b1 : (0 : Int) ≤ (bb : Int) := by omega
              have b2 : (bb : Int) < 8 := by omega
              have b3 : decide ((bb : Int) < 0) = false := decide_eq_false (by omega)
              have HA := hide ha
              have HBB := hide hb
              clear ha hb
              by_cases hd : da < db
              · have t1 : decide (da < db) = true := decide_eq_true hd
                have HT := hide (hB.out.less HM.out (by rw [HA.out, HBB.out]; exact hd))
                go_wp2_with fail
                refine wp_region_t [0, 0, 1, 0, 0, 0, 0, 0, 0, 0, 0, 0, 0, 1, 0, 0, 0, 0, 0, 1, 0, 0, 0] [none, none, none, none, none, some (24, true), some (24, true), some (24, true), some (27, false), some (27, false), some (27, false), some (27, false), some (27, false), some (27, false), some (27, false), some (27, false), some (27, false), some (27, false), some (27, false), some (27, false), some (27, false), some (24, true), none] (fun _ => True) (by kernel_rfl) (by kernel_rfl) (by kernel_rfl) ?_
                go_wp2_with (first | (refine wpG_skip ?_ ?_; (focus (simp [wantG, undef]; done)); go_simp) | (refine wpG_calc rfl (fun K hK => ?_)) | (refine wpG_skip ?_ ?_; (focus (simp [wantG]; done)); go_simp) | (refine wpG_take ?_ ?_; (focus (simp [wantG]; done))) | (refine wpG_pure (fun K hK => ?_); go_simp; refine hK _ _ ?_; clear hK K) | (refine wpG_deed (by decide) (fun K hK => ?_); go_simp) | (refine wpG_nil ?_))
                go_roundw
                case rel => exact ⟨k + 1, k, by omega, rfl, by go_num, HT, hch2.drew⟩
                case measure => simp [intOf]; omega
              · have t1 : decide (da < db) = false := decide_eq_false hd
                have HT := hide (hB.out.more (by rw [HA.out, HBB.out]; exact hd))
                go_wp2_with fail
                refine wp_region_t [0, 0, 1, 0, 0, 0, 0, 0, 0, 0, 0, 0, 0, 1, 0, 0, 0, 0, 0, 1, 0, 0, 0] [none, none, none, none, none, some (24, true), some (24, true), some (24, true), some (27, false), some (27, false), some (27, false), some (27, false), some (27, false), some (27, false), some (27, false), some (27, false), some (27, false), some (27, false), some (27, false), some (27, false), some (27, false), some (24, true), none] (fun _ => True) (by kernel_rfl) (by kernel_rfl) (by kernel_rfl) ?_
                go_wp2_with (first | (refine wpG_skip ?_ ?_; (focus (simp [wantG, undef]; done)); go_simp) | (refine wpG_calc rfl (fun K hK => ?_)) | (refine wpG_skip ?_ ?_; (focus (simp [wantG]; done)); go_simp) | (refine wpG_take ?_ ?_; (focus (simp [wantG]; done))) | (refine wpG_pure (fun K hK => ?_); go_simp; refine hK _ _ ?_; clear hK K) | (refine wpG_deed (by decide) (fun K hK => ?_); go_simp) | (refine wpG_nil ?_))
                go_roundw
                case rel => exact ⟨k + 1, bb, by omega, rfl, by go_num, HT, hch2.drew⟩
                case measure => simp [intOf]; omega
        · obtain rfl : k = n := by omega
          rcases hB.out with ⟨rfl, hall⟩ | ⟨bb, rfl, hbk, hbn, hbm⟩
          · exfalso
            obtain ⟨j, hj, hjn⟩ := hsel.out.some (by have := hml.out; omega)
            exact hjn (hall j hj)
          · have HADD := hide (hsel.out.add hbk hbn hbm)
            have HSB := hide (HF2.out.set bb true)
            have fb := HF2.out.get (i := bb) (by omega)
            have ff := Blk.frozen HF2.out bb
            have hset : ∀ v, ((fun q => if q = bb then true else f q) v) = true ↔ v ∈ L ++ [bb] := fun v => by
              rw [List.mem_append, List.mem_singleton, ← hfv.out v]
              simp only
              split
              · rename_i e; simp [e]
              · rename_i e; simp [e]
            have HSET := hide hset
            have hs2 : SI (wr.setCell ⟨bd, bb, none⟩ (.bool true)) (.slice A m cap) L := (hs.out.stay hch2).chg ((Chg.refl [bd] wr).setCell (p := ⟨bd, bb, none⟩) (.inl (by simp)) _) (fun j hj h => by obtain rfl := List.mem_singleton.1 h; have := hown.out _ hj; omega)
            have HS2 := hide hs2
            have hch3 : Chg [bd] W (wr.setCell ⟨bd, bb, none⟩ (.bool true)) := (hch.stay hch2).setCell (p := ⟨bd, bb, none⟩) (.inl (by simp)) _
            have HL : Hid (L.length + [bb].length ≤ 1000000) := hide (by have := hml.out; simp; omega)
            have b1 : (0 : Int) ≤ (bb : Int) := by omega
            have b2 : (bb : Int) < 8 := by omega
            have hml2 := hml
            have hri := RI_one (wr.setCell ⟨bd, bb, none⟩ (.bool true)) bb
            rw [size_set] at hri
            have HRI := hide hri
            clear hri
            clear hset hs2 hB hbn hbm
            go_wp2_with (at_builtin; refine wpList_append_i rfl _ _ rfl (.slice A m cap) _ rfl rfl (l := L) (m := [bb]) (HS2.out.stay ((Chg.refl [] (wr.setCell ⟨bd, bb, none⟩ (.bool true))).alloc _)) HRI.out HL.out ?_; intro A9 n9 c9 W9 hn9 hs9 hc9 hg9)
            go_roundw
            case rel =>
              have hn9' : n9 = m + 1 := by have := hn9.out; rw [List.length_append] at this; have := hml2.out; simp at *; omega
              exact ⟨A9, n9, c9, _, _, rfl, by omega, hide (by rw [hn9']; have := hml2.out; simp; omega), hide hs9, hide (fun j hj => (hg9 j hj).elim (hown.out j) (fun h => by have := hch3.size; simp at h; simp at this; omega)), HADD, hide ((HSB.out.alloc _).chg hc9 (fun h => by have := hown.out _ h; omega)), HSET, (hch3.alloc _).trans hc9 (fun j hj => .inr (hown.out j hj))⟩
            case measure =>
              have hn9' : n9 = m + 1 := by have := hn9.out; rw [List.length_append] at this; have := hml2.out; simp at *; omega
              simp [slen]; omega
    · have HF := hide (hsel.out.full (by have := hml.out; omega))
      go_wp2_with fail
      go_ret
      exact ⟨A, m, cap, L, rfl, hs.out, by rw [HN.out, Int.toNat_natCast]; exact HF.out, fun j hj => Nat.le_trans hwW (hown.out j hj), HC.out.trans hch (fun x hx => .inr (by obtain rfl := List.mem_singleton.1 hx; exact hwd))⟩
end Go.Proofs.Ytgehpdkhcjeldaa
