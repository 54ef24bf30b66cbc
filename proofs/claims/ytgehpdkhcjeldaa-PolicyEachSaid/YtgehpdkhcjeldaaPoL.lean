/- Policies: the document's Order. -/
import Derived.Test.YtgehpdkhcjeldaaPoP
import Derived.Test.YtgehpdkhcjeldaaPoT
import Derived.Test.YtgehpdkhcjeldaaPoB
namespace Go.Proofs.Ytgehpdkhcjeldaa
open Go Go.RowKit

theorem wpG_eload {Q : Exit → Act → World → Prop} {o : Oper} {rest : List Oper} {ks : List Nat} {gs : List (Option (Nat × Bool))} {a : Act} {w : World} (t : TypeId) (x : Operand) (ho : o.op = .load t x) {ad : Addr} (hx : a.eval x = .pointer (some ad)) {v : Value} (hv : (loadVar t ad).run Try.prog w = .ok v w)
    (h : wpG Try.prog (fun W => W = w) Q rest ks gs (a.put o.dst v) w) : wpG Try.prog (fun W => W = w) Q (o :: rest) (5 :: ks) (none :: gs) a w := wpG_hload t x ho hx (fun w' hw' => by subst hw'; exact hv) rfl h
theorem wpG_ecall {Q : Exit → Act → World → Prop} {o : Oper} {rest : List Oper} {ks : List Nat} {gs : List (Option (Nat × Bool))} {a : Act} {w : World} {f : FuncId} {args : Array Value} {v : Value} (ho : ∀ w', (execOp a.eval o).run Try.prog w' = .ok (.enter f args) w') (hv : Calls Try.prog f args w (fun e w' => e = .returned v ∧ w = w'))
    (h : wpG Try.prog (fun W => W = w) Q rest ks gs (a.put o.dst v) w) : wpG Try.prog (fun W => W = w) Q (o :: rest) (5 :: ks) (none :: gs) a w :=
  wpG_hcall ho (fun w' hw' => by subst hw'; exact hv.mono fun e w2 h => ⟨h.1, h.2.symm⟩) rfl h
theorem load_u8k {w : World} {a : Addr} {x : Int} (h : w.cell? a = some (.int .u8 x)) : (loadVar 43 a).run Try.prog w = .ok (.int .u8 x) w := load_int Try.underlying43 h
theorem load_i64 {w : World} {a : Addr} {x : Int} (h : w.cell? a = some (.int .i64 x)) : (loadVar 3 a).run Try.prog w = .ok (.int .i64 x) w := load_int Try.underlying3 h
def PoRR (c : Cf) (kind m node page : Nat) (w : World) (e : Ending) (w' : World) : Prop := ∃ A n cap l, e = .returned (.slice A n cap) ∧ SI w' (.slice A n cap) l ∧ PolL c kind m node page l ∧ Chg [] w w'
set_option maxRecDepth 20000 in
set_option maxHeartbeats 4000000 in
theorem rpOrder_any {c : Cf} (hM : MayP c) {kind m : Nat} (hm : m < 256) (hl : (len8 m : Int) ≤ c 0) (hkind : kind = 0 ∧ ones m = 0 ∨ kind = 1 ∧ ones m = 1 ∨ (kind = 2 ∨ kind = 3) ∧ 0 < ones m) (node page : Nat) (hnode : (node : Int) < c 0) (hpg : (page : Int) ≤ 9223372036854775807) (w : World) :
    Calls Try.prog 28 #[.agg (cg c), .agg #[.int .u8 kind, .int .u8 m], .int .i64 node, .int .i64 page] w (PoRR c kind m node page w) := by
  have HB : Hid (CB ((w.alloc (.cells (cg c) 26)).alloc (.cells #[.int .u8 kind, .int .u8 m] 45)) w.heap.size c) := hide ((Blk.new w 26 (cg c)).alloc _)
  have HP : Hid (Blk ((w.alloc (.cells (cg c) 26)).alloc (.cells #[.int .u8 kind, .int .u8 m] 45)) (w.heap.size + 1) 45 #[.int .u8 kind, .int .u8 m]) := hide (by
    have := Blk.new (w.alloc (.cells (cg c) 26)) 45 #[.int .u8 kind, .int .u8 m]
    rwa [World.size_alloc] at this)
  have HC : Hid (Chg [] w ((w.alloc (.cells (cg c) 26)).alloc (.cells #[.int .u8 kind, .int .u8 m] 45))) := hide (((Chg.refl [] w).alloc _).alloc _)
  obtain ⟨n, hn⟩ : ∃ n : Nat, c 0 = n := ⟨(c 0).toNat, by have := hM.n1; omega⟩
  have hn8 : n ≤ 8 := by have := hM.n8; omega
  have HN := hide hn
  have HHAS := hide (fun W (k : Nat) => rhas_any hm (k : Int) W)
  have HOR := hide (fun W => rOrderF_any hM node hnode W)
  have HIN := hide (inL_to hm hn8 (by omega))
  have H1 := hide (inL_ones' hm)
  have HLOW := hide (fun h0 => inL_low' hm h0)
  have HORL := hide (fun (h0 : ones m ≠ 0) W => rOrderF_any hM (low8 m) (by have := low8_lt hm h0; omega) W)
  have HKIND := hide hkind
  have HPG := hide hpg
  have nn1 : (n : Int) ≤ 8 := by omega
  clear hn hm hM hl hkind hnode hpg
  go_enter Try.func28, Try.ntmps28
  go_wp2_with (first | (refine wpList_box26 rfl _ rfl rfl ?_))
  obtain ⟨W0, hW0⟩ : ∃ W0, W0 = (w.alloc (.cells (cg c) 26)).alloc (.cells #[.int .u8 kind, .int .u8 m] 45) := ⟨_, rfl⟩
  rw [← hW0] at HB HP HC ⊢
  have hbW : w.heap.size < W0.heap.size := HB.out.lt
  have hpW : w.heap.size + 1 < W0.heap.size := HP.out.lt
  clear hW0
  obtain ⟨b, hb⟩ : ∃ b, b = w.heap.size := ⟨_, rfl⟩
  have HBE := hide hb
  rw [← hb] at HB HP hbW hpW ⊢
  clear hb
  go_loopw [9, 11] (fun t i wr => ∃ (k : Nat) (A : Option Addr) (nn cap : Nat), k ≤ n ∧ t = .slice A nn cap ∧ i = .int .i64 k ∧ Hid (SI wr (.slice A nn cap) (inL m k)) ∧ Hid (∀ j ∈ own (.slice A nn cap), W0.heap.size ≤ j) ∧ Chg [] W0 wr) (fun _ i _ => n - (intOf i).toNat)
  case atStart => exact ⟨0, none, 0, 0, by omega, rfl, rfl, hide (SE.nil _ _ _ _), hide (fun _ h => (own_nil h).elim), Chg.refl _ _⟩
  case round =>
    obtain ⟨k, A, nn, cap, hk, rfl, rfl, hs, hown, hch⟩ := hrel
    have g0 := CB.get (CB.stay_ HB.out hch) (i := 0) (by omega)
    rw [HN.out] at g0
    have HPr := hide (HP.out.chg hch List.not_mem_nil)
    have p0 := HPr.out.cell 0
    have p1 := HPr.out.cell 1
    simp at p0 p1
    have hbr : b < wr.heap.size := Nat.lt_of_lt_of_le hbW hch.size
    have hpr : b + 1 < wr.heap.size := Nat.lt_of_lt_of_le hpW hch.size
    by_cases hkt : k < n
    · have k1 : (0 : Int) ≤ (k : Int) := by omega
      have HL := hide (show (inL m k).length + [k].length ≤ 1000000 by have := inL_le m k; simp; omega)
      go_wp2_with fail
      refine (HHAS.out _ k).mono ?_
      rintro e W2 ⟨rfl, rfl⟩
      cases hz : hasZ m k with
      | true =>
        have HZ := hide (inL_yes hz)
        clear hz
        go_wp2_with (at_builtin; refine wpList_append_i rfl _ _ rfl (.slice A nn cap) _ rfl rfl (l := inL m k) (m := [k]) (hs.out.stay ((Chg.refl [] wr).alloc _)) (RI_one wr k) HL.out ?_; intro A9 n9 c9 W9 hn9 hs9 hc9 hg9)
        go_roundw
        case rel => exact ⟨k + 1, A9, n9, c9, by omega, rfl, by go_num, hide (by rw [HZ.out]; exact hs9), hide (fun j hj => (hg9 j hj).elim (hown.out j) (fun h => by have := hch.size; simp at h; omega)), (hch.alloc _).trans hc9 (fun j hj => .inr (hown.out j hj))⟩
        case measure => simp [intOf]; omega
      | false =>
        have HZ := hide (inL_no hz)
        clear hz
        go_wp2_with fail
        go_roundw
        case rel => exact ⟨k + 1, A, nn, cap, by omega, rfl, by go_num, hide (by rw [HZ.out]; exact hs.out), hown, hch⟩
        case measure => simp [intOf]; omega
    · obtain rfl : k = n := by omega
      rw [HIN.out] at hs
      have HBr := hide (CB.stay_ HB.out hch)
      have HCr := hide (HC.out.stay hch)
      have hsz := hch.size
      have HOW := hide (show ∀ j ∈ own (.slice A nn cap), b < j ∧ b + 1 < j from fun j hj => by have := hown.out j hj; omega)
      clear hown HB HP HC hch
      by_cases k0 : kind = 0
      · subst k0
        go_wp2_with (first | (refine wpList_load26L (b := b) (c := c) rfl _ rfl rfl ?_ ?_; (focus exact HBr.out)))
        refine (HOR.out _).mono ?_
        rintro e W5 ⟨A5, m5, cap5, L, rfl, hs5, hL5, hown5, hc5⟩
        have HS5 := hide hs5
        have HL5 := hide hL5
        clear hs5 hL5
        go_wp2_with fail
        go_ret
        exact ⟨A5, m5, cap5, L, rfl, HS5.out, .inl ⟨rfl, HL5.out⟩, HCr.out.stay hc5⟩
      by_cases k1 : kind = 1
      · subst k1
        have h1 : ones m = 1 := by have := HKIND.out; omega
        have HLG := hide (HLOW.out (by omega))
        have HOL := hide (HORL.out (by omega))
        have HLN := hide (show 0 < (inL m 8).length by rw [H1.out]; omega)
        clear h1
        have hnn : nn = (inL m 8).length := by
          obtain ⟨A', c', e'⟩ := hs.out.form
          injection e'
        subst hnn
        obtain ⟨g, off, rfl⟩ := SE.addr hs.out HLN.out
        have qj := SI.cell hs.out.re HLN.out
        rw [show (inL m 8)[0]'HLN.out = low8 m from by have h := HLG.out; rw [List.getElem?_eq_getElem HLN.out] at h; exact Option.some.inj h] at qj
        obtain ⟨l, hl⟩ : ∃ l, l = inL m 8 := ⟨_, rfl⟩
        rw [← hl] at hs HLN
        rw [← hl]
        have hnl := HLN.out
        have hnl2 : (0 : Int) < (l.length : Int) := by omega
        obtain ⟨lo, hlo⟩ : ∃ lo, lo = low8 m := ⟨_, rfl⟩
        rw [← hlo] at qj HOL
        have HLO := hide hlo
        have hg8 : g < wr.heap.size := hs.out.own_lt g (by simp [own, Value.ownBlock])
        clear hlo hl
        go_wp2_with fail
        refine wp_region_t [5, 0, 0, 5, 3, 0] [none, none, none, none, none, none] (fun W => W = wr.drew) (by kernel_rfl) (by kernel_rfl) (by kernel_rfl) ?_
        go_wp2_with (first | (refine wpG_eload 26 _ rfl rfl (load26 (show CB wr.drew b c from HBr.out)) ?_) | (refine wpG_eload 3 _ rfl rfl (load_i64 (show wr.drew.cell? _ = _ from qj)) ?_; go_simp) | (refine wpG_calc rfl (fun K hK => ?_)) | (refine wpG_skip ?_ ?_; (focus (simp [wantG]; done)); go_simp) | (refine wpG_take ?_ ?_; (focus (simp [wantG]; done))) | (refine wpG_pure (fun K hK => ?_); go_simp; refine hK _ _ ?_; clear hK K) | (refine wpG_deed (by decide) (fun K hK => ?_); go_simp) | (refine wpG_nil ?_))
        refine (HOL.out _).mono ?_
        rintro e W5 ⟨A5, m5, cap5, L, rfl, hs5, hL5, hown5, hc5⟩
        refine hK _ _ ?_
        clear hK K
        have HS5 := hide hs5
        have HL5 := hide hL5
        clear hs5 hL5
        go_wp2_with (first | fail | (refine wpG_calc rfl (fun K hK => ?_)) | (refine wpG_skip ?_ ?_; (focus (simp [wantG]; done)); go_simp) | (refine wpG_take ?_ ?_; (focus (simp [wantG]; done))) | (refine wpG_pure (fun K hK => ?_); go_simp; refine hK _ _ ?_; clear hK K) | (refine wpG_deed (by decide) (fun K hK => ?_); go_simp) | (refine wpG_nil ?_))
        go_ret
        exact ⟨A5, m5, cap5, L, rfl, HS5.out, .inr (.inl ⟨rfl, by rw [← HLO.out]; exact HL5.out⟩), (HCr.out.drew).stay hc5⟩
      by_cases k2 : kind = 2
      · subst k2
        go_wp2_with (first | (refine wpList_load26L (b := b) (c := c) rfl _ rfl rfl ?_ ?_; (focus exact HBr.out)))
        refine (HOR.out _).mono ?_
        rintro e W5 ⟨A5, m5, cap5, L, rfl, hs5, hL5, hown5, hc5⟩
        have hm5 : m5 = L.length := by
          obtain ⟨A', c', e'⟩ := hs5.form
          injection e'
        subst hm5
        have HS5 := hide hs5
        have HL5 := hide hL5
        have HLL := hide (show L.length ≤ 8 by rw [hL5.length, HN.out]; omega)
        have l8 : (L.length : Int) ≤ 8 := by have := HLL.out; omega
        have HP5 := hide (HPr.out.chg hc5 List.not_mem_nil)
        have q0 := HP5.out.cell 0
        have q1 := HP5.out.cell 1
        simp at q0 q1
        have hp5 : b + 1 < W5.heap.size := HP5.out.lt
        skip
        clear hs5 hL5 hown5 HPr p0 p1 g0
        go_wp2_with fail
        go_loopw [10, 14] (fun t i wr2 => ∃ (j : Nat) (A7 : Option Addr) (n7 cap7 : Nat), j ≤ L.length ∧ t = .slice A7 n7 cap7 ∧ i = .int .i64 j ∧ Hid (SI wr2 (.slice A7 n7 cap7) (([] : List Nat) ++ (L.take j).filter fun x => hasZ m (x : Nat))) ∧ Hid (∀ k ∈ own (.slice A7 n7 cap7), k ∉ own (.slice A5 L.length cap5) ∧ w.heap.size ≤ k ∧ k ≠ b + 1) ∧ Hid (SI wr2 (.slice A5 L.length cap5) L) ∧ Hid (Blk wr2 (b + 1) 45 #[.int .u8 (2 : Nat), .int .u8 m]) ∧ Chg [] w wr2 ∧ W5.heap.size ≤ wr2.heap.size) (fun _ i _ => L.length - (intOf i).toNat)
        case atStart => exact ⟨0, none, 0, 0, by omega, rfl, rfl, hide (SE.nil _ _ _ _), hide (fun _ h => (own_nil h).elim), HS5, HP5, HCr.out.stay hc5, Nat.le_refl _⟩
        case round =>
          obtain ⟨j, A7, n7, cap7, hj, rfl, rfl, hs7, hown7, hn7, hp7, hch7, hsz7⟩ := hrel
          by_cases hjt : j < L.length
          · obtain ⟨g, off, rfl⟩ := SE.addr hn7.out (by omega)
            have qj := SI.cell hn7.out.re hjt
            have r0 := hp7.out.cell 0
            have r1 := hp7.out.cell 1
            simp at r0 r1
            have hp8 : b + 1 < wr.heap.size := hp7.out.lt
            have hg8 : g < wr.heap.size := hn7.out.own_lt g (by simp [own, Value.ownBlock])
            have HT := hide (show L.take (j + 1) = L.take j ++ [L[j]] from List.take_succ_eq_append_getElem hjt)
            have HLL2 := hide (show (([] : List Nat) ++ (L.take j).filter fun x => hasZ m (x : Nat)).length ≤ 16 by
              rw [List.length_append]
              have h1 := List.length_filter_le (fun x : Nat => hasZ m (x : Nat)) (L.take j)
              rw [List.length_take] at h1
              have := HLL.out
              have h3 : ([] : List Nat).length ≤ 8 := by simp
              omega)
            generalize L[j] = y at qj HT
            obtain ⟨ol, hol⟩ : ∃ ol, ol = (([] : List Nat) ++ (L.take j).filter fun x => hasZ m (x : Nat)) := ⟨_, rfl⟩
            rw [← hol] at hs7 HLL2
            have HOL := hide hol
            have j1 : (0 : Int) ≤ (j : Int) := by omega
            have j2 : (j : Int) < (L.length : Int) := by omega
            obtain ⟨h, hh⟩ : ∃ h, hasZ m (y : Nat) = h := ⟨_, rfl⟩
            have HH := hide (HHAS.out wr.drew y)
            rw [hh] at HH
            have HHY := hide hh
            clear hh hol
            cases h with
            | true =>
              go_wp2_with fail
              refine wp_region_t [0, 5, 0, 0, 0, 5, 5, 0, 5, 0, 0] [none, none, none, none, none, none, none, none, none, none, none] (fun W => W = wr.drew) (by kernel_rfl) (by kernel_rfl) (by kernel_rfl) ?_
              go_wp2_with (first | (refine wpG_eload 5 _ rfl rfl (load_u8 (show wr.drew.cell? _ = _ from r1)) ?_; go_simp) | (refine wpG_eload 3 _ rfl rfl (load_i64 (show wr.drew.cell? _ = _ from qj)) ?_; go_simp) | (refine wpG_eload 43 _ rfl rfl (load_u8k (show wr.drew.cell? _ = _ from r0)) ?_; go_simp) | (refine wpG_calc rfl (fun K hK => ?_)) | (refine wpG_skip ?_ ?_; (focus (simp [wantG]; done)); go_simp) | (refine wpG_take ?_ ?_; (focus (simp [wantG]; done))) | (refine wpG_pure (fun K hK => ?_); go_simp; refine hK _ _ ?_; clear hK K) | (refine wpG_deed (by decide) (fun K hK => ?_); go_simp) | (refine wpG_nil ?_))
              refine wpG_ecall (f := 37) (args := #[.int .u8 m, .int .i64 y]) (fun w' => ?_) HH.out ?_
              · go_simp
              have HRI := hide (show RI (wr.alloc (.cells #[.int .i64 y] 3)).drew (.slice (some ⟨wr.heap.size, 0, none⟩) 1 1) [y] from RI_one wr y)
              have HS8 := hide (show SI (wr.alloc (.cells #[.int .i64 y] 3)).drew (.slice A7 n7 cap7) ol from hs7.out.stay (((Chg.refl [] wr).alloc _).drew))
              have HA1 := hide (show ol.length + [y].length ≤ 1000000 by have := HLL2.out; simp; omega)
              go_wp2_with (first | (refine wpG_eload 43 _ rfl rfl (load_u8k (show wr.drew.cell? _ = _ from r0)) ?_; go_simp) | (at_builtin; refine wpList_append_i rfl _ _ rfl (.slice A7 n7 cap7) _ rfl rfl (l := ol) (m := [y]) HS8.out HRI.out HA1.out ?_; intro A9 n9 c9 W9 hn9 hs9 hc9 hg9) | (refine wpG_calc rfl (fun K hK => ?_)) | (refine wpG_skip ?_ ?_; (focus (simp [wantG]; done)); go_simp) | (refine wpG_take ?_ ?_; (focus (simp [wantG]; done))) | (refine wpG_pure (fun K hK => ?_); go_simp; refine hK _ _ ?_; clear hK K) | (refine wpG_deed (by decide) (fun K hK => ?_); go_simp) | (refine wpG_nil ?_))
              go_roundw
              case rel => exact ⟨j + 1, A9, n9, c9, by omega, rfl, by go_num, hide (by rw [HT.out, List.filter_append, ← List.append_assoc, ← HOL.out]; simpa [HHY.out] using hs9), hide (fun k hk => (hg9 k hk).elim (hown7.out k) (fun h => ⟨fun h2 => by have := hn7.out.own_lt k h2; simp at h; omega, by have := hch7.size; simp at h; omega, by simp at h; omega⟩)), hide ((hn7.out.stay (((Chg.refl [] wr).alloc _).drew)).chg hc9 (fun k hk h => (hown7.out k h).1 hk)), hide ((hp7.out.chg (((Chg.refl [] wr).alloc (.cells #[.int .i64 y] 3)).drew) List.not_mem_nil).chg hc9 (fun h => (hown7.out _ h).2.2 rfl)), ((hch7.alloc _).drew).trans hc9 (fun k hk => .inr (hown7.out k hk).2.1), by have := hc9.size; simp at this; omega⟩
              case measure => simp [intOf]; omega
            | false =>
              go_wp2_with fail
              refine wp_region_t [0, 5, 0, 0, 0, 5, 5, 0, 5, 0, 0] [none, none, none, none, none, none, none, none, none, none, none] (fun W => W = wr.drew) (by kernel_rfl) (by kernel_rfl) (by kernel_rfl) ?_
              go_wp2_with (first | (refine wpG_eload 5 _ rfl rfl (load_u8 (show wr.drew.cell? _ = _ from r1)) ?_; go_simp) | (refine wpG_eload 3 _ rfl rfl (load_i64 (show wr.drew.cell? _ = _ from qj)) ?_; go_simp) | (refine wpG_eload 43 _ rfl rfl (load_u8k (show wr.drew.cell? _ = _ from r0)) ?_; go_simp) | (refine wpG_calc rfl (fun K hK => ?_)) | (refine wpG_skip ?_ ?_; (focus (simp [wantG]; done)); go_simp) | (refine wpG_take ?_ ?_; (focus (simp [wantG]; done))) | (refine wpG_pure (fun K hK => ?_); go_simp; refine hK _ _ ?_; clear hK K) | (refine wpG_deed (by decide) (fun K hK => ?_); go_simp) | (refine wpG_nil ?_))
              refine wpG_ecall (f := 37) (args := #[.int .u8 m, .int .i64 y]) (fun w' => ?_) HH.out ?_
              · go_simp
              go_wp2_with (first | (refine wpG_eload 43 _ rfl rfl (load_u8k (show wr.drew.cell? _ = _ from r0)) ?_; go_simp) | (refine wpG_calc rfl (fun K hK => ?_)) | (refine wpG_skip ?_ ?_; (focus (simp [wantG]; done)); go_simp) | (refine wpG_take ?_ ?_; (focus (simp [wantG]; done))) | (refine wpG_pure (fun K hK => ?_); go_simp; refine hK _ _ ?_; clear hK K) | (refine wpG_deed (by decide) (fun K hK => ?_); go_simp) | (refine wpG_nil ?_))
              go_roundw
              case rel => exact ⟨j + 1, A7, n7, cap7, by omega, rfl, by go_num, hide (by rw [HT.out, List.filter_append, ← List.append_assoc, ← HOL.out]; have h9 : SI wr.drew (.slice A7 n7 cap7) ol := hs7.out; simpa [HHY.out] using h9), hown7, hn7, hp7, hch7.drew, hsz7⟩
              case measure => simp [intOf]; omega
          · obtain rfl : j = L.length := by omega
            have HFI := hide (show SI wr (.slice A7 n7 cap7) (([] : List Nat) ++ L.filter fun x => hasZ m (x : Nat)) by have := hs7.out; rwa [List.take_length] at this)
            go_wp2_with fail
            go_ret
            exact ⟨A7, n7, cap7, _, rfl, HFI.out, .inr (.inr (.inl ⟨rfl, L, HL5.out, by simp⟩)), hch7⟩
      by_cases k3 : kind = 3
      · subst k3
        have h1 : 0 < ones m := by have := HKIND.out; omega
        have HLN := hide (show 0 < (inL m 8).length by rw [H1.out]; omega)
        have HL8 := hide (show (inL m 8).length ≤ 8 from inL_le m 8)
        clear h1
        obtain ⟨l, hl⟩ : ∃ l, l = inL m 8 := ⟨_, rfl⟩
        rw [← hl] at hs HLN HL8
        obtain ⟨rot, hrot⟩ : ∃ rot, rot = rotL l page := ⟨_, rfl⟩
        have HRL := hide (show rot.length ≤ 8 by rw [hrot, rotL_length]; exact HL8.out)
        have HRL2 := hide (show rot.length = l.length by rw [hrot, rotL_length])
        have hnn : nn = l.length := by
          obtain ⟨A', c', e'⟩ := hs.out.form
          injection e'
        subst hnn
        obtain ⟨g, off, rfl⟩ := SE.addr hs.out HLN.out
        obtain ⟨a, ha⟩ : ∃ a, a = page % l.length := ⟨_, rfl⟩
        have hal : a < l.length := by rw [ha]; exact Nat.mod_lt _ HLN.out
        have HGET := hide (show ∀ k : Nat, k < l.length → rot[k]? = l[(a + k) % l.length]? from fun k hk => by rw [hrot, ha]; exact rotL_get hk)
        have l1 : (1 : Int) ≤ (l.length : Int) := by omega
        have l2 : (l.length : Int) ≤ 8 := by have := HL8.out; omega
        have p1' : (0 : Int) ≤ (page : Int) := by omega
        have p2' := HPG.out
        have hmod : ((page : Int) % (l.length : Int)) = (a : Int) := by rw [ha]; rfl
        have a1 : (0 : Int) ≤ (a : Int) := by omega
        have a2 : (a : Int) < (l.length : Int) := by omega
        have hl0 : ((l.length : Int) == 0) = false := beq_eq_false_iff_ne.2 (by omega)
        have hl00 : (l.length == 0) = false := beq_eq_false_iff_ne.2 (by omega)
        have HROT := hide (show rot = rotL (inL m 8) page by rw [hrot, hl])
        have HSLT := hide hs.out.own_lt
        clear hl hrot ha
        obtain ⟨W1, rfl⟩ : ∃ W1 : World, W1 = wr := ⟨_, rfl⟩
        go_wp2_with fail
        go_loopw [10, 12] (fun t i wr2 => ∃ (j : Nat) (A6 : Option Addr) (n6 cap6 : Nat), j ≤ l.length ∧ t = .slice A6 n6 cap6 ∧ i = .int .i64 j ∧ Hid (SI wr2 (.slice A6 n6 cap6) (rot.take j)) ∧ Hid (∀ k ∈ own (.slice A6 n6 cap6), W1.heap.size ≤ k) ∧ Hid (SI wr2 (.slice (some ⟨g, off, none⟩) l.length cap) l) ∧ Chg [] W1 wr2) (fun _ i _ => l.length - (intOf i).toNat)
        case atStart => exact ⟨0, none, 0, 0, by omega, rfl, rfl, hide (SE.nil _ _ _ _), hide (fun _ h => (own_nil h).elim), hs, Chg.refl _ _⟩
        case round =>
          obtain ⟨j, A6, n6, cap6, hj, rfl, rfl, hs6, hown6, hin6, hch6⟩ := hrel
          by_cases hjt : j < l.length
          · obtain ⟨i, hi⟩ : ∃ i, i = (a + j) % l.length := ⟨_, rfl⟩
            have hil : i < l.length := by rw [hi]; exact Nat.mod_lt _ (by omega)
            have hmod2 : (((a : Int) + (j : Int)) % (l.length : Int)) = (i : Int) := by rw [hi]; push_cast; rfl
            have qj := SI.cell hin6.out.re hil
            have HT := hide (show rot.take (j + 1) = rot.take j ++ [l[i]] by
              have hjr : j < rot.length := by rw [HRL2.out]; exact hjt
              rw [List.take_succ_eq_append_getElem hjr]
              have h := HGET.out j hjt
              rw [List.getElem?_eq_getElem hjr, ← hi, List.getElem?_eq_getElem hil] at h
              rw [Option.some.inj h])
            generalize l[i] = y at qj HT
            have hg8 : g < wr.heap.size := hin6.out.own_lt g (by simp [own, Value.ownBlock])
            have i1 : (0 : Int) ≤ (i : Int) := by omega
            have i2 : (i : Int) < (l.length : Int) := by omega
            have j1 : (0 : Int) ≤ (j : Int) := by omega
            have j2 : (j : Int) < (l.length : Int) := by omega
            have HA1 := hide (show (rot.take j).length + [y].length ≤ 1000000 by
              rw [List.length_take]; have := HRL.out; simp; omega)
            have HS8 := hide (hs6.out.stay ((Chg.refl [] wr).alloc (.cells #[.int .i64 y] 3)))
            have HRI := hide (RI_one wr y)
            clear hi
            go_wp2_with (at_builtin; refine wpList_append_i rfl _ _ rfl (.slice A6 n6 cap6) _ rfl rfl (l := rot.take j) (m := [y]) HS8.out HRI.out HA1.out ?_; intro A9 n9 c9 W9 hn9 hs9 hc9 hg9)
            go_roundw
            case rel => exact ⟨j + 1, A9, n9, c9, by omega, rfl, by go_num, hide (by rw [HT.out]; exact hs9), hide (fun k hk => (hg9 k hk).elim (hown6.out k) (fun h => by have := hch6.size; simp at h; omega)), hide ((hin6.out.stay ((Chg.refl [] wr).alloc _)).chg hc9 (fun k hk h => by have h1 := hown6.out k h; have h2 := HSLT.out k hk; omega)), (hch6.alloc _).trans hc9 (fun k hk => .inr (hown6.out k hk))⟩
            case measure => simp [intOf]; omega
          · obtain rfl : j = l.length := by omega
            have HFO := hide (show SI wr (.slice A6 n6 cap6) rot by have := hs6.out; rwa [← HRL2.out, List.take_length] at this)
            have HB6 := hide (CB.stay_ HBr.out hch6)
            have HP6 := hide (HPr.out.chg hch6 List.not_mem_nil)
            have HC6 := hide (HCr.out.stay hch6)
            have HOW6 := hide (show ∀ k ∈ own (.slice A6 n6 cap6), w.heap.size ≤ k ∧ k ≠ b + 1 from fun k hk => by
              have h1 := hown6.out k hk
              have h2 := HCr.out.size
              have h3 := HPr.out.lt
              omega)
            go_wp2_with (first | (refine wpList_load26L (b := b) (c := c) rfl _ rfl rfl ?_ ?_; (focus exact HB6.out)))
            refine (HOR.out _).mono ?_
            rintro e W5 ⟨A5, m5, cap5, L, rfl, hs5, hL5, hown5, hc5⟩
            have hm5 : m5 = L.length := by
              obtain ⟨A', c', e'⟩ := hs5.form
              injection e'
            subst hm5
            have HS5 := hide hs5
            have HL5 := hide hL5
            have HLL := hide (show L.length ≤ 8 by rw [hL5.length, HN.out]; omega)
            have l8 : (L.length : Int) ≤ 8 := by have := HLL.out; omega
            have HP5 := hide (HP6.out.chg hc5 List.not_mem_nil)
            have q0 := HP5.out.cell 0
            have q1 := HP5.out.cell 1
            simp at q0 q1
            have hp5 : b + 1 < W5.heap.size := HP5.out.lt
            skip
            clear hs5 hL5 HPr p0 p1 g0
            go_wp2_with fail
            go_loopw [10, 14] (fun t i wr2 => ∃ (j : Nat) (A7 : Option Addr) (n7 cap7 : Nat), j ≤ L.length ∧ t = .slice A7 n7 cap7 ∧ i = .int .i64 j ∧ Hid (SI wr2 (.slice A7 n7 cap7) (rot ++ (L.take j).filter fun x => !hasZ m (x : Nat))) ∧ Hid (∀ k ∈ own (.slice A7 n7 cap7), k ∉ own (.slice A5 L.length cap5) ∧ w.heap.size ≤ k ∧ k ≠ b + 1) ∧ Hid (SI wr2 (.slice A5 L.length cap5) L) ∧ Hid (Blk wr2 (b + 1) 45 #[.int .u8 (3 : Nat), .int .u8 m]) ∧ Chg [] w wr2 ∧ W5.heap.size ≤ wr2.heap.size) (fun _ i _ => L.length - (intOf i).toNat)
            case atStart => exact ⟨0, A6, n6, cap6, by omega, rfl, rfl, hide (by have := HFO.out.stay hc5; simpa using this), hide (fun k hk => ⟨fun h => by have := hown5 k h; have := HFO.out.own_lt k hk; omega, (HOW6.out k hk)⟩), HS5, HP5, HC6.out.stay hc5, Nat.le_refl _⟩
            case round =>
              obtain ⟨j, A7, n7, cap7, hj, rfl, rfl, hs7, hown7, hn7, hp7, hch7, hsz7⟩ := hrel
              by_cases hjt : j < L.length
              · obtain ⟨g, off, rfl⟩ := SE.addr hn7.out (by omega)
                have qj := SI.cell hn7.out.re hjt
                have r0 := hp7.out.cell 0
                have r1 := hp7.out.cell 1
                simp at r0 r1
                have hp8 : b + 1 < wr.heap.size := hp7.out.lt
                have hg8 : g < wr.heap.size := hn7.out.own_lt g (by simp [own, Value.ownBlock])
                have HT := hide (show L.take (j + 1) = L.take j ++ [L[j]] from List.take_succ_eq_append_getElem hjt)
                have HLL2 := hide (show (rot ++ (L.take j).filter fun x => !hasZ m (x : Nat)).length ≤ 16 by
                  rw [List.length_append]
                  have h1 := List.length_filter_le (fun x : Nat => !hasZ m (x : Nat)) (L.take j)
                  rw [List.length_take] at h1
                  have := HLL.out
                  have h3 : rot.length ≤ 8 := HRL.out
                  omega)
                generalize L[j] = y at qj HT
                obtain ⟨ol, hol⟩ : ∃ ol, ol = (rot ++ (L.take j).filter fun x => !hasZ m (x : Nat)) := ⟨_, rfl⟩
                rw [← hol] at hs7 HLL2
                have HOL := hide hol
                have j1 : (0 : Int) ≤ (j : Int) := by omega
                have j2 : (j : Int) < (L.length : Int) := by omega
                obtain ⟨h, hh⟩ : ∃ h, hasZ m (y : Nat) = h := ⟨_, rfl⟩
                have HH := hide (HHAS.out wr.drew y)
                rw [hh] at HH
                have HHY := hide hh
                clear hh hol
                cases h with
                | true =>
                  go_wp2_with fail
                  refine wp_region_t [0, 5, 0, 0, 0, 5, 5, 0, 5, 0, 0] [none, none, none, none, none, none, none, none, none, none, none] (fun W => W = wr.drew) (by kernel_rfl) (by kernel_rfl) (by kernel_rfl) ?_
                  go_wp2_with (first | (refine wpG_eload 5 _ rfl rfl (load_u8 (show wr.drew.cell? _ = _ from r1)) ?_; go_simp) | (refine wpG_eload 3 _ rfl rfl (load_i64 (show wr.drew.cell? _ = _ from qj)) ?_; go_simp) | (refine wpG_eload 43 _ rfl rfl (load_u8k (show wr.drew.cell? _ = _ from r0)) ?_; go_simp) | (refine wpG_calc rfl (fun K hK => ?_)) | (refine wpG_skip ?_ ?_; (focus (simp [wantG]; done)); go_simp) | (refine wpG_take ?_ ?_; (focus (simp [wantG]; done))) | (refine wpG_pure (fun K hK => ?_); go_simp; refine hK _ _ ?_; clear hK K) | (refine wpG_deed (by decide) (fun K hK => ?_); go_simp) | (refine wpG_nil ?_))
                  refine wpG_ecall (f := 37) (args := #[.int .u8 m, .int .i64 y]) (fun w' => ?_) HH.out ?_
                  · go_simp
                  go_wp2_with (first | (refine wpG_eload 43 _ rfl rfl (load_u8k (show wr.drew.cell? _ = _ from r0)) ?_; go_simp) | (refine wpG_calc rfl (fun K hK => ?_)) | (refine wpG_skip ?_ ?_; (focus (simp [wantG]; done)); go_simp) | (refine wpG_take ?_ ?_; (focus (simp [wantG]; done))) | (refine wpG_pure (fun K hK => ?_); go_simp; refine hK _ _ ?_; clear hK K) | (refine wpG_deed (by decide) (fun K hK => ?_); go_simp) | (refine wpG_nil ?_))
                  go_roundw
                  case rel => exact ⟨j + 1, A7, n7, cap7, by omega, rfl, by go_num, hide (by rw [HT.out, List.filter_append, ← List.append_assoc, ← HOL.out]; have h9 : SI wr.drew (.slice A7 n7 cap7) ol := hs7.out; simpa [HHY.out] using h9), hown7, hn7, hp7, hch7.drew, hsz7⟩
                  case measure => simp [intOf]; omega
                | false =>
                  go_wp2_with fail
                  refine wp_region_t [0, 5, 0, 0, 0, 5, 5, 0, 5, 0, 0] [none, none, none, none, none, none, none, none, none, none, none] (fun W => W = wr.drew) (by kernel_rfl) (by kernel_rfl) (by kernel_rfl) ?_
                  go_wp2_with (first | (refine wpG_eload 5 _ rfl rfl (load_u8 (show wr.drew.cell? _ = _ from r1)) ?_; go_simp) | (refine wpG_eload 3 _ rfl rfl (load_i64 (show wr.drew.cell? _ = _ from qj)) ?_; go_simp) | (refine wpG_eload 43 _ rfl rfl (load_u8k (show wr.drew.cell? _ = _ from r0)) ?_; go_simp) | (refine wpG_calc rfl (fun K hK => ?_)) | (refine wpG_skip ?_ ?_; (focus (simp [wantG]; done)); go_simp) | (refine wpG_take ?_ ?_; (focus (simp [wantG]; done))) | (refine wpG_pure (fun K hK => ?_); go_simp; refine hK _ _ ?_; clear hK K) | (refine wpG_deed (by decide) (fun K hK => ?_); go_simp) | (refine wpG_nil ?_))
                  refine wpG_ecall (f := 37) (args := #[.int .u8 m, .int .i64 y]) (fun w' => ?_) HH.out ?_
                  · go_simp
                  have HRI := hide (show RI (wr.alloc (.cells #[.int .i64 y] 3)).drew (.slice (some ⟨wr.heap.size, 0, none⟩) 1 1) [y] from RI_one wr y)
                  have HS8 := hide (show SI (wr.alloc (.cells #[.int .i64 y] 3)).drew (.slice A7 n7 cap7) ol from hs7.out.stay (((Chg.refl [] wr).alloc _).drew))
                  have HA1 := hide (show ol.length + [y].length ≤ 1000000 by have := HLL2.out; simp; omega)
                  go_wp2_with (first | (refine wpG_eload 43 _ rfl rfl (load_u8k (show wr.drew.cell? _ = _ from r0)) ?_; go_simp) | (at_builtin; refine wpList_append_i rfl _ _ rfl (.slice A7 n7 cap7) _ rfl rfl (l := ol) (m := [y]) HS8.out HRI.out HA1.out ?_; intro A9 n9 c9 W9 hn9 hs9 hc9 hg9) | (refine wpG_calc rfl (fun K hK => ?_)) | (refine wpG_skip ?_ ?_; (focus (simp [wantG]; done)); go_simp) | (refine wpG_take ?_ ?_; (focus (simp [wantG]; done))) | (refine wpG_pure (fun K hK => ?_); go_simp; refine hK _ _ ?_; clear hK K) | (refine wpG_deed (by decide) (fun K hK => ?_); go_simp) | (refine wpG_nil ?_))
                  go_roundw
                  case rel => exact ⟨j + 1, A9, n9, c9, by omega, rfl, by go_num, hide (by rw [HT.out, List.filter_append, ← List.append_assoc, ← HOL.out]; simpa [HHY.out] using hs9), hide (fun k hk => (hg9 k hk).elim (hown7.out k) (fun h => ⟨fun h2 => by have := hn7.out.own_lt k h2; simp at h; omega, by have := hch7.size; simp at h; omega, by simp at h; omega⟩)), hide ((hn7.out.stay (((Chg.refl [] wr).alloc _).drew)).chg hc9 (fun k hk h => (hown7.out k h).1 hk)), hide ((hp7.out.chg (((Chg.refl [] wr).alloc (.cells #[.int .i64 y] 3)).drew) List.not_mem_nil).chg hc9 (fun h => (hown7.out _ h).2.2 rfl)), ((hch7.alloc _).drew).trans hc9 (fun k hk => .inr (hown7.out k hk).2.1), by have := hc9.size; simp at this; omega⟩
                  case measure => simp [intOf]; omega
              · obtain rfl : j = L.length := by omega
                have HFI := hide (show SI wr (.slice A7 n7 cap7) (rot ++ L.filter fun x => !hasZ m (x : Nat)) by have := hs7.out; rwa [List.take_length] at this)
                go_wp2_with fail
                go_ret
                exact ⟨A7, n7, cap7, _, rfl, HFI.out, .inr (.inr (.inr ⟨rfl, L, HL5.out, by rw [HROT.out]⟩)), hch7⟩
      · exfalso
        have := HKIND.out
        omega
end Go.Proofs.Ytgehpdkhcjeldaa
