/- FramesRoles: the walk. -/
import Derived.Test.YtblkfikcfgocgaaFrM
namespace Go.Proofs.Ytblkfikcfgocgaa
open Go Go.RowKit

/-- a call of a script, as the law reads it -/
structure OpS where
  kind : Int
  f : Int
  at_ : Int
  n : Int
  b : Value
  m : Mk
  w : Int
def opc (o : OpS) : List Value := [.int .i64 o.kind, .int .i64 o.f, .int .i64 o.at_, .int .i64 o.n, o.b, .int .u8 o.m.role, .int .i64 o.m.ord, .int .i64 o.m.owr, .int .i64 o.m.page, .int .i64 o.m.idx, .int .u64 o.w]
theorem opc_len (o : OpS) : (opc o).length = 11 := rfl
/-- a role each -/
def okM (M : List Mk) : Prop := ∀ m ∈ M, 1 ≤ m.role ∧ m.role ≤ 5
theorem okM_set {M : List Mk} (h : okM M) {k : Nat} {m : Mk} (hm : mayM m = true) : okM (M.set k m) := fun x hx => by
  rcases List.mem_or_eq_of_mem_set hx with h1 | rfl
  · exact h x h1
  · unfold mayM at hm
    simp only [Bool.and_eq_true, decide_eq_true_eq] at hm
    exact ⟨hm.1, hm.2.1⟩
def sumR (L : List Mk) : Nat → Nat
  | 0 => 0
  | r + 1 => sumR L r + roleN L r
theorem sumR_nil (r : Nat) : sumR [] r = 0 := by
  induction r with
  | zero => rfl
  | succ r ih => simp [sumR, ih, roleN]
theorem sumR_cons (m : Mk) (L : List Mk) (r : Nat) : sumR (m :: L) r = sumR L r + if m.role < r then 1 else 0 := by
  induction r with
  | zero => simp [sumR]
  | succ r ih =>
    have e : roleN (m :: L) r = roleN L r + if m.role = r then 1 else 0 := by
      unfold roleN
      rw [List.countP_cons]
      simp
    simp only [sumR, ih, e]
    by_cases c1 : m.role < r
    · rw [if_pos c1, if_neg (by omega), if_pos (by omega)]; omega
    · by_cases c2 : m.role = r
      · rw [if_neg c1, if_pos c2, if_pos (by omega)]; omega
      · rw [if_neg c1, if_neg c2, if_neg (by omega)]; omega
theorem sumR_all {L : List Mk} (h : okM L) : sumR L 6 = L.length := by
  induction L with
  | nil => exact sumR_nil 6
  | cons m L ih =>
    rw [sumR_cons, ih (fun x hx => h x (List.mem_cons_of_mem _ hx)), if_pos (by have := (h m (List.mem_cons_self ..)).2; omega)]
    rfl
theorem sumR_le (L : List Mk) (r : Nat) : sumR L r ≤ L.length := by
  induction L with
  | nil => rw [sumR_nil]; exact Nat.zero_le _
  | cons m L ih => rw [sumR_cons, List.length_cons]; split <;> omega
theorem sumR_one {L : List Mk} (h : okM L) : sumR L 1 = 0 := by
  have : roleN L 0 = 0 := by
    unfold roleN
    rw [List.countP_eq_zero]
    intro m hm
    have := (h m hm).1
    simp
    omega
  simp [sumR, this]
theorem nodeM_length {w : World} {a gb gm : Nat} {c : Cf} {n : Nat} {B : List Nat} {M : List Mk} (h : FM w a gb gm c n B M) {k : Nat} (hk : (k : Int) < c 0) : ((nodeM M c k).length : Int) = c (18 + k) := by
  have h8 := h.mc.n8
  have hfr := h.mc.fr k (by omega) hk
  have hs1 := (h.mc.sum_le k (by omega)).1
  have htot : sumF c (k + 1) ≤ n := by
    have h1 := h.tn
    unfold totV at h1
    rw [if_pos (mayB_true h.mc)] at h1
    have := h.mc.sum_mono (i := k + 1) 8 (by omega) (by omega)
    omega
  rw [sumF_succ] at htot
  have hlm := h.lm
  unfold nodeM
  rw [List.length_take, List.length_drop]
  omega
theorem okM_node {M : List Mk} (h : okM M) (c : Cf) (k : Nat) : okM (nodeM M c k) := fun x hx => h x (by unfold nodeM at hx; exact List.mem_of_mem_drop (List.mem_of_mem_take hx))
theorem ops_cells {w : World} {g off n cap : Nat} {l : List OpS} (h : RE opc 11 w (.slice (some ⟨g, off, none⟩) n cap) l) {k : Nat} (hk : k < l.length) :
    w.cell? ⟨g, off + k * 11 + 1, none⟩ = some (.int .i64 l[k].f) ∧ w.cell? ⟨g, off + k * 11 + 5, none⟩ = some (.int .u8 (l[k].m.role : Nat)) ∧ w.cell? ⟨g, off + k * 11 + 5 + 1, none⟩ = some (.int .i64 l[k].m.ord) ∧ w.cell? ⟨g, off + k * 11 + 5 + 2, none⟩ = some (.int .i64 l[k].m.owr) ∧ w.cell? ⟨g, off + k * 11 + 5 + 3, none⟩ = some (.int .i64 l[k].m.page) ∧ w.cell? ⟨g, off + k * 11 + 5 + 4, none⟩ = some (.int .i64 l[k].m.idx) :=
  ⟨RE.cell opc_len h hk (j := 1) (by omega) rfl, RE.cell opc_len h hk (j := 5) (by omega) rfl, RE.cell opc_len h hk (j := 6) (by omega) rfl, RE.cell opc_len h hk (j := 7) (by omega) rfl, RE.cell opc_len h hk (j := 8) (by omega) rfl, RE.cell opc_len h hk (j := 9) (by omega) rfl⟩
theorem CB.chg_ {w w' : World} {b : Nat} {c : Cf} (h : CB w b c) (hc : Chg [] w w') : CB w' b c := Blk.chg h hc List.not_mem_nil
set_option maxRecDepth 20000 in
set_option maxHeartbeats 8000000 in
theorem roles_law (c : Cf) {v : Value} {l : List OpS} (w : World) (hv : RE opc 11 w v l) (h8 : ∀ o ∈ l, o.m.role < 256) (hl : (l.length : Int) ≤ 9223372036854775807) :
    Calls Try.prog 4 #[.agg (cg c), v] w fun e w' => e = .returned (.bool true) ∧ Chg [] w w' := by
  have HB := hide (Blk.new w 26 (cg c))
  have HC := hide (show Chg [] w (w.alloc (.cells (cg c) 26)) from (Chg.refl [] w).alloc _)
  have HN := hide (fun W => New_any c W)
  have HK := hide known03_any
  have HV := hide hv
  obtain ⟨A, cap, rfl⟩ := RE.form hv
  have H8 := hide h8
  have HLV := hide (show 0 < l.length → ∀ k ∈ own (.slice A l.length cap), k < w.heap.size from fun h0 k hk => by
    obtain ⟨g, off, rfl⟩ := RE.addr hv h0
    obtain rfl := own_one hk
    have := (ops_cells hv h0).1
    exact World.block_lt_of_cell? w _ this)
  clear hv h8
  go_enter Try.func4, Try.ntmps4
  go_wp2_with (first | (refine wpList_box26 rfl _ rfl rfl ?_) | (refine wpList_load26L (b := w.heap.size) (c := c) rfl _ rfl rfl ?_ ?_; (focus exact HB.out)))
  refine (HN.out _).mono ?_
  rintro e W2 ⟨hn, hc2⟩
  have HC2 := hide (HC.out.stay hc2)
  have HB2 := hide (show CB W2 w.heap.size c from HB.out.chg hc2 List.not_mem_nil)
  rcases hn with ⟨hmay, rfl⟩ | ⟨hmay, a, gb, gm, n, rfl, hn, hf, ha, hb, hm⟩
  · clear hmay hc2
    go_wp2_with fail
    refine (HK.out _).mono ?_
    rintro e W3 ⟨rfl, hc3⟩
    have HC3 := hide (HC2.out.stay hc3)
    clear hc3
    go_wp2_with fail
    go_ret
    exact ⟨rfl, HC3.out⟩
  have HF := hide hf
  have HMM := hide (show w.heap.size + 1 ≤ gm by simpa using hm)
  have HV2 := hide (HV.out.stay HC2.out)
  have HOK := hide (show okM (List.replicate n fMk) from fun x hx => by obtain ⟨_, rfl⟩ := List.mem_replicate.1 hx; exact ⟨by decide, by decide⟩)
  clear hmay hc2 hn hf ha hb hm HB HC HN HV
  by_cases hlen : 300 < l.length
  · have d1 : decide (300 < (l.length : Int)) = true := decide_eq_true (by omega)
    have d2 : decide (300 < l.length) = true := decide_eq_true hlen
    go_wp2_with fail
    refine (HK.out _).mono ?_
    rintro e W3 ⟨rfl, hc3⟩
    have HC3 := hide (HC2.out.stay hc3)
    clear hc3
    go_wp2_with fail
    go_ret
    exact ⟨rfl, HC3.out⟩
  have d1 : decide (300 < (l.length : Int)) = false := decide_eq_false (by omega)
  have d2 : decide (300 < l.length) = false := decide_eq_false hlen
  have hll : (l.length : Int) ≤ 300 := by omega
  obtain ⟨b, hbe⟩ : ∃ b, b = w.heap.size := ⟨_, rfl⟩
  have HBE := hide hbe
  rw [← hbe] at HB2 ⊢
  clear hbe
  go_wp2_with fail
  go_loopw [30] (fun t wr => ∃ (i : Nat) (M : List Mk), i ≤ l.length ∧ t = .int .i64 i ∧ Hid (FM wr a gb gm c n (List.replicate (n * 256) 0) M) ∧ Hid (okM M) ∧ Chg [gm] W2 wr) (fun t _ => l.length - (intOf t).toNat)
  case atStart => exact ⟨0, _, by omega, rfl, HF, HOK, Chg.refl _ _⟩
  case round =>
    obtain ⟨i, M, hi, rfl, hf, hok, hch⟩ := hrel
    by_cases hit : i < l.length
    · have HVr := hide (HV2.out.chg hch (fun k hk => by have := HLV.out (by omega) k hk; have := HMM.out; simp; omega))
      obtain ⟨g, off, rfl⟩ := RE.addr HVr.out (by omega)
      obtain ⟨k0, k1, k2, k3, k4, k5⟩ := ops_cells HVr.out hit
      have hr8 := H8.out _ (List.getElem_mem hit)
      generalize l[i] = o at k0 k1 k2 k3 k4 k5 hr8
      obtain ⟨o1, o2, o3, o4, o5, m, o7⟩ := o
      simp only at k0 k1 k2 k3 k4 k5 hr8
      have HSM := hide (SetMark_any (w := wr.drew) (show FM wr.drew a gb gm c n _ M from hf.out.stay (Chg.refl _ _).drew) o2 m hr8)
      have HOK2 := hide (show okM (if smE n o2 m = 0 then M.set o2.toNat m else M) by
        split
        · rename_i h
          refine okM_set hok.out ?_
          unfold smE at h
          split at h
          · omega
          · split at h
            · assumption
            · omega
        · exact hok.out)
      unfold mval at HSM
      obtain ⟨ro, m1, m2, m3, m4⟩ := m
      simp only at k1 k2 k3 k4 k5 hr8 HSM HOK2
      generalize (if smE n o2 ⟨ro, m1, m2, m3, m4⟩ = 0 then M.set o2.toNat ⟨ro, m1, m2, m3, m4⟩ else M) = M' at HSM HOK2
      have hgl : g < wr.heap.size := by
        have := HLV.out (by omega) g (by simp [own, Value.ownBlock])
        have h1 := HC2.out.size
        have h2 := hch.size
        omega
      have i0 : (0 : Int) ≤ (i : Int) := by omega
      have i1 : (i : Int) < (l.length : Int) := by omega
      clear hr8
      go_wp2_with fail
      refine wp_region_t [0, 0, 0, 0, 0, 1, 0, 0, 0, 0, 1, 3] [none, none, none, none, none, none, none, none, none, none, none, none] (fun _ => True) (by kernel_rfl) (by kernel_rfl) (by kernel_rfl) ?_
      go_wp2_with (first | fail | (refine wpG_calc rfl (fun K hK => ?_)) | (refine wpG_skip ?_ ?_; (focus (simp [wantG]; done)); go_simp) | (refine wpG_take ?_ ?_; (focus (simp [wantG]; done))) | (refine wpG_pure (fun K hK => ?_); go_simp; refine hK _ _ ?_; clear hK K) | (refine wpG_deed (by decide) (fun K hK => ?_); go_simp) | (refine wpG_nil ?_))
      refine HSM.out.mono ?_
      rintro e W5 ⟨rfl, hf5, hc5⟩
      refine hK _ _ ?_
      clear hK K
      have HF5 := hide hf5
      have HC5 := hide ((hch.drew).trans hc5 (fun x hx => .inl hx))
      clear hf5 hc5 hch hf hok
      go_wp2_with (first | fail | (refine wpG_calc rfl (fun K hK => ?_)) | (refine wpG_skip ?_ ?_; (focus (simp [wantG]; done)); go_simp) | (refine wpG_take ?_ ?_; (focus (simp [wantG]; done))) | (refine wpG_pure (fun K hK => ?_); go_simp; refine hK _ _ ?_; clear hK K) | (refine wpG_deed (by decide) (fun K hK => ?_); go_simp) | (refine wpG_nil ?_))
      go_roundw
      case rel => exact ⟨i + 1, M', by omega, by go_num, HF5, HOK2, HC5.out⟩
      case measure => simp [intOf]; omega
    · obtain rfl : i = l.length := by omega
      obtain ⟨W4, rfl⟩ : ∃ W4 : World, W4 = wr := ⟨_, rfl⟩
      have HB4 := hide (show CB W4 b c from HB2.out.chg hch (by have := HMM.out; have := HBE.out; simp; omega))
      have HC4 := hide (HC2.out.trans hch (fun x hx => .inr (by obtain rfl := List.mem_singleton.1 hx; have := HMM.out; omega)))
      have h8 := hf.out.mc.n8
      obtain ⟨N, hN⟩ : ∃ N : Nat, c 0 = N := ⟨(c 0).toNat, by have := hf.out.mc.n1; omega⟩
      have HNN := hide hN
      have hN8 : (N : Int) ≤ 8 := by omega
      have g0 := CB.get HB4.out (i := 0) (by omega)
      rw [hN] at g0
      have hbl : b < W4.heap.size := HB4.out.lt
      clear hch HB2 HC2 HF hi hit h8 hN
      go_wp2_with fail
      go_loopw [48] (fun t wr => ∃ k : Nat, k ≤ N ∧ t = .int .i64 k ∧ Chg [] W4 wr) (fun t _ => N - (intOf t).toNat)
      case atStart => exact ⟨0, by omega, rfl, Chg.refl _ _⟩
      case round =>
        obtain ⟨k, hk, rfl, hch⟩ := hrel
        clear g0
        by_cases hkt : k < N
        · have hkc : (k : Int) < c 0 := by rw [HNN.out]; omega
          have HLN := hide (nodeM_length hf.out hkc)
          have HS6 := hide (sumR_all (okM_node hok.out c k))
          have HS1 := hide (sumR_one (okM_node hok.out c k))
          have hfr := (hf.out.mc.fr k (by omega) hkc).2.1
          have HCT := hide (fun W (h : FM W a gb gm c n (List.replicate (n * 256) 0) M) (r : Nat) (hr : r < 256) => Count_in h hkc hr)
          have hle := sumR_le (nodeM M c k)
          have hll128 : (nodeM M c k).length ≤ 128 := by have := HLN.out; omega
          have HLE := hide (show ∀ r, sumR (nodeM M c k) r ≤ 128 from fun r => by have := hle r; omega)
          have HRL := hide (show ∀ r, roleN (nodeM M c k) r ≤ 128 from fun r => by have := roleN_le (nodeM M c k) r; omega)
          generalize nodeM M c k = L at HLN HS6 HS1 HCT HLE HRL
          have k0 : (0 : Int) ≤ (k : Int) := by omega
          have k1 : (k : Int) < 8 := by omega
          clear hkc hle hll128
          go_wp2_with fail
          go_loopw [9, 10] (fun s t wr => ∃ r : Nat, 1 ≤ r ∧ r ≤ 6 ∧ s = .int .i64 (sumR L r : Nat) ∧ t = .int .u8 r ∧ Chg [] W4 wr) (fun _ t _ => 6 - (intOf t).toNat)
          case atStart => exact ⟨1, by omega, by omega, by rw [HS1.out]; rfl, rfl, hch⟩
          case round =>
            obtain ⟨r, hr1, hr6, rfl, rfl, hch2⟩ := hrel
            have hsz := HLE.out r
            have hsz2 : (sumR L r : Int) ≤ 128 := by omega
            have r0 : (1 : Int) ≤ (r : Int) := by omega
            have r1 : (r : Int) ≤ 6 := by omega
            by_cases hrt : r ≤ 5
            · have hz := HRL.out r
              have hz2 : (roleN L r : Int) ≤ 128 := by omega
              have HST := hide (show sumR L (r + 1) = sumR L r + roleN L r from rfl)
              have HC := hide (HCT.out _ (hf.out.stay hch2) r (by omega))
              have d3 : decide ((r : Int) ≤ 5) = true := decide_eq_true (by omega)
              have d4 : decide (r ≤ 5) = true := decide_eq_true hrt
              generalize roleN L r = z at hz2 HST HC
              generalize sumR L r = y at hsz2 HST ⊢
              clear hz hsz
              go_wp2_with fail
              refine HC.out.mono ?_
              rintro e W6 ⟨rfl, hc6⟩
              have HC6 := hide (hch2.stay hc6)
              clear hc6
              go_wp2_with fail
              go_roundw
              case rel => exact ⟨r + 1, by omega, by omega, by rw [HST.out]; go_num, by go_num, HC6.out⟩
              case measure => simp [intOf]; omega
            · obtain rfl : r = 6 := by omega
              have qf := CB.get (CB.chg_ HB4.out hch2) (i := 18 + k) (by omega)
              rw [← HLN.out, ← HS6.out] at qf
              have hb6 : b < wr.heap.size := Nat.lt_of_lt_of_le hbl hch2.size
              generalize sumR L 6 = y at qf hsz2 ⊢
              clear hsz
              go_wp2_with fail
              go_roundw
              case rel => exact ⟨k + 1, by omega, by go_num, hch2⟩
              case measure => simp [intOf]; omega
        · obtain rfl : k = N := by omega
          have HC7 := hide (HC4.out.stay hch)
          go_wp2_with fail
          refine (HK.out _).mono ?_
          rintro e W9 ⟨rfl, hc9⟩
          have HC9 := hide (HC7.out.stay hc9)
          clear hc9
          go_wp2_with fail
          go_ret
          exact ⟨rfl, HC9.out⟩
end Go.Proofs.Ytblkfikcfgocgaa
