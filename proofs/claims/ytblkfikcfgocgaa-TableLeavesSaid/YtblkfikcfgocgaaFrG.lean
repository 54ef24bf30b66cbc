/- Count. -/
import Derived.Test.YtblkfikcfgocgaaFrF
namespace Go.Proofs.Ytblkfikcfgocgaa
open Go Go.RowKit

/-- how many marks have the role -/
def roleN (M : List Mk) (r : Nat) : Nat := M.countP fun m => m.role == r
theorem roleN_snoc (M : List Mk) (m : Mk) (r : Nat) : roleN (M ++ [m]) r = roleN M r + if m.role = r then 1 else 0 := by
  unfold roleN
  rw [List.countP_append, List.countP_singleton]
  simp
theorem roleN_le (M : List Mk) (r : Nat) : roleN M r ≤ M.length := List.countP_le_length
/-- the marks of a node -/
def nodeM (M : List Mk) (c : Cf) (k : Nat) : List Mk := (M.drop (sumF c k).toNat).take (c (18 + k)).toNat
theorem mg_rangeAt {w : World} {a : Nat} {c : Cf} {vb vm : Value} (h : Blk w a 79 (mg c vb vm)) : w.rangeAt a 0 (cg c).toList := fun j v hv => by
  rw [Array.getElem?_toList] at hv
  have hj : j < 94 := by
    have := (Array.getElem?_eq_some_iff.1 hv).1
    rwa [cg_size] at this
  rw [Nat.zero_add, h.cell, mg_get _ _ _ hj, ← cg_get c hj]
  exact hv
theorem wpList_loadc {ops : Array Oper} {rest : List Oper} {o : Oper} {a : Act} {w : World} {Q : Exit → Act → World → Prop} {b : Nat} {c : Cf} (hg : o.guard = none) (x : Operand) (ho : o.op = .load 26 x)
    (hx : a.eval x = .pointer (some ⟨b, 0, none⟩)) (h0 : w.rangeAt b 0 (cg c).toList) (h : wpList Try.prog ops Q rest (a.put o.dst (.agg (cg c))) w) : wpList Try.prog ops Q (o :: rest) a w := by
  refine wpList_plain hg fun K hK => ?_
  refine wp_load_mid 26 x ho b 0 hx (cg c).toList _ h0 Try.underlying26 rfl (by rw [info26, Array.length_toList, cg_size]) ?_
  rw [Array.toArray_toList]
  exact hK _ _ h
theorem SE.cells5 {w : World} {g off n cap : Nat} {M : List Mk} (h : RE mcl 5 w (.slice (some ⟨g, off, none⟩) n cap) M) {k : Nat} (hk : k < M.length) :
    w.cell? ⟨g, off + k * 5, none⟩ = some (.int .u8 (M[k].role : Nat)) ∧ w.cell? ⟨g, off + k * 5 + 1, none⟩ = some (.int .i64 M[k].ord) ∧ w.cell? ⟨g, off + k * 5 + 2, none⟩ = some (.int .i64 M[k].owr) ∧ w.cell? ⟨g, off + k * 5 + 3, none⟩ = some (.int .i64 M[k].page) ∧ w.cell? ⟨g, off + k * 5 + 4, none⟩ = some (.int .i64 M[k].idx) :=
  ⟨RE.cell mcl_len h hk (j := 0) (by omega) rfl, RE.cell mcl_len h hk (j := 1) (by omega) rfl, RE.cell mcl_len h hk (j := 2) (by omega) rfl, RE.cell mcl_len h hk (j := 3) (by omega) rfl, RE.cell mcl_len h hk (j := 4) (by omega) rfl⟩
set_option maxRecDepth 20000 in
set_option maxHeartbeats 4000000 in
theorem Count_in {w : World} {a gb gm : Nat} {c : Cf} {n : Nat} {B : List Nat} {M : List Mk} (h : FM w a gb gm c n B M) {k : Nat} (hk : (k : Int) < c 0) {r : Nat} (hr : r < 256) :
    Calls Try.prog 18 #[.pointer (some ⟨a, 0, none⟩), .int .i64 k, .int .u8 r] w fun e w' => e = .returned (.int .i64 (roleN (nodeM M c k) r : Nat)) ∧ Chg [] w w' := by
  have HR := hide (ready_any h)
  have HF := hide (fun W => First_any c k W)
  obtain ⟨e1, e2⟩ := (show firstN c k = sumF c k ∧ firstE c k = 0 from by
    constructor
    · unfold firstN
      rw [if_pos ⟨mayB_true h.mc, by omega, by omega⟩, Int.toNat_natCast]
    · unfold firstE
      rw [if_neg (by rw [mayB_true h.mc]; simp), if_pos ⟨by omega, by omega⟩])
  rw [e1, e2] at HF
  have h8 := h.mc.n8
  have hfr := h.mc.fr k (by omega) hk
  have hs1 := (h.mc.sum_le k (by omega)).1
  have htot : sumF c (k + 1) ≤ n := by
    have h1 := h.tn
    unfold totV at h1
    rw [if_pos (mayB_true h.mc)] at h1
    have := h.mc.sum_mono (i := k + 1) 8 (by omega) (by omega)
    omega
  rw [sumF_succ] at htot
  obtain ⟨s, hs⟩ : ∃ s : Nat, sumF c k = s := ⟨(sumF c k).toNat, by omega⟩
  obtain ⟨f, hf⟩ : ∃ f : Nat, c (18 + k) = f := ⟨(c (18 + k)).toNat, by omega⟩
  have qf := h.cc (i := 18 + k) (by omega)
  rw [hf] at qf hfr htot
  rw [hs] at HF htot
  have hnM : nodeM M c k = (M.drop s).take f := by unfold nodeM; rw [hs, hf]; rfl
  rw [hnM]
  obtain ⟨cm, hcm, qm, hsm⟩ := h.cm
  obtain ⟨cb', cm', hblk, _, _⟩ := h.o
  have HRA := hide (mg_rangeAt hblk)
  have hlt := h.lt
  have hn := h.n2
  have hlm := h.lm
  have HM := hide hsm
  have hsf : s + f ≤ n := by omega
  have hcs : ¬ cm = s := by omega
  have hsub : s + f - s = f := by omega
  have k1 : (0 : Int) ≤ (k : Int) := by omega
  have k2 : (k : Int) < 8 := by omega
  have s1 : (s : Int) ≤ 1024 := by omega
  have f1 : (f : Int) ≤ 128 := by omega
  have sf1 : (s : Int) + (f : Int) ≤ (n : Int) := by omega
  have sf2 : (s : Int) + (f : Int) ≤ (cm : Int) := by omega
  have hab := h.ne
  clear h e1 e2 hfr htot hs hf hnM hblk hsm hs1 hk
  go_enter Try.func18, Try.ntmps18
  go_wp2_with fail
  refine HR.out.mono ?_
  rintro e w' ⟨rfl, rfl⟩
  go_wp2_with (first | (refine wpList_loadc (b := a) (c := c) rfl _ rfl rfl HRA.out ?_))
  refine (HF.out _).mono ?_
  rintro e W2 ⟨rfl, hc2⟩
  have q2 := hc2.cell qf List.not_mem_nil
  have qm2 := hc2.cell qm List.not_mem_nil
  have hl2 : a < W2.heap.size := Nat.lt_of_lt_of_le hlt.1 hc2.size
  have HM2 := hide (HM.out.stay hc2)
  clear HM qf qm HRA
  go_wp2_with fail
  refine wp_region_t [0, 0, 0, 1, 0, 0, 0, 0, 0, 0, 0, 0, 1, 0, 0, 0, 0] [none, none, none, none, none, none, none, none, none, none, none, none, none, none, none, none, none] (fun _ => True) (by kernel_rfl) (by kernel_rfl) (by kernel_rfl) ?_
  go_wp2_with (first | fail | (refine wpG_calc rfl (fun K hK => ?_)) | (refine wpG_skip ?_ ?_; (focus (simp [wantG]; done)); go_simp) | (refine wpG_take ?_ ?_; (focus (simp [wantG]; done))) | (refine wpG_pure (fun K hK => ?_); go_simp; refine hK _ _ ?_; clear hK K) | (refine wpG_deed (by decide) (fun K hK => ?_); go_simp) | (refine wpG_nil ?_))
  obtain ⟨W3, hW3⟩ : ∃ W3, W3 = W2.drew := ⟨_, rfl⟩
  have HM3 := hide (show SM W3 (.slice (some ⟨gm, 0, none⟩) n cm) M by rw [hW3]; exact HM2.out)
  have HC3 := hide (show Chg [] w W3 by rw [hW3]; exact hc2.drew)
  rw [← hW3]
  clear hW3 q2 qm2 hl2 HM2 hc2 hab hlt
  go_loopw [6, 41] (fun t i wr => ∃ j : Nat, j ≤ f ∧ t = .int .i64 (roleN ((M.drop s).take j) r : Nat) ∧ i = .int .i64 j ∧ Chg [] W3 wr) (fun _ i _ => f - (intOf i).toNat)
  case atStart => exact ⟨0, by omega, by simp [roleN], rfl, Chg.refl _ _⟩
  case round =>
    obtain ⟨j, hj, rfl, rfl, hch⟩ := hrel
    have hrl := roleN_le ((M.drop s).take j) r
    have hrl2 : ((M.drop s).take j).length ≤ f := by rw [List.length_take]; omega
    have hrz : (roleN ((M.drop s).take j) r : Int) ≤ 128 := by omega
    by_cases hjt : j < f
    · have hjM : s + j < M.length := by omega
      obtain ⟨c0, c1, c2, c3, c4⟩ := SE.cells5 ((HM3.out.stay hch).re) hjM
      rw [show 0 + (s + j) * 5 = s * 5 + j * 5 by omega] at c0 c1 c2 c3 c4
      have hgr : gm < wr.heap.size := (HM3.out.stay hch).own_lt gm (by simp [own, Value.ownBlock])
      have HT := hide (show roleN ((M.drop s).take (j + 1)) r = roleN ((M.drop s).take j) r + if M[s + j].role = r then 1 else 0 by
        rw [List.take_succ_eq_append_getElem (by rw [List.length_drop]; omega), roleN_snoc, List.getElem_drop])
      generalize M[s + j] = m at c0 c1 c2 c3 c4 HT
      obtain ⟨ro, m1, m2, m3, m4⟩ := m
      simp only at c0 c1 c2 c3 c4 HT
      have j1 : (0 : Int) ≤ (j : Int) := by omega
      have j2 : (j : Int) < (f : Int) := by omega
      clear hrl hrl2 hjM
      generalize roleN ((M.drop s).take j) r = z at hrz HT ⊢
      by_cases hro : ro = r
      · have e1 : ((ro : Int) == (r : Int)) = true := by simp; omega
        have e2 : (ro == r) = true := by simpa using hro
        have HT2 := hide (show roleN ((M.drop s).take (j + 1)) r = z + 1 by rw [HT.out, if_pos hro])
        clear hro HT
        go_wp2_with fail
        go_roundw
        case rel => exact ⟨j + 1, by omega, by rw [HT2.out]; go_num, by go_num, hch.alloc _⟩
        case measure => simp [intOf]; omega
      · have e1 : ((ro : Int) == (r : Int)) = false := by simp; omega
        have e2 : (ro == r) = false := by simpa using hro
        have HT2 := hide (show roleN ((M.drop s).take (j + 1)) r = z by rw [HT.out, if_neg hro]; rfl)
        clear hro HT
        go_wp2_with fail
        go_roundw
        case rel => exact ⟨j + 1, by omega, by rw [HT2.out], by go_num, hch.alloc _⟩
        case measure => simp [intOf]; omega
    · obtain rfl : j = f := by omega
      go_wp2_with fail
      go_ret
      exact ⟨rfl, HC3.out.stay hch⟩
end Go.Proofs.Ytblkfikcfgocgaa
