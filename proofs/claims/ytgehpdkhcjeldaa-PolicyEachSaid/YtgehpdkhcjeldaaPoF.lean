/- Policies: DeleteFunc. -/
import Derived.Test.YtgehpdkhcjeldaaPoE
namespace Go.Proofs.Ytgehpdkhcjeldaa
open Go Go.RowKit

theorem si_zero {g off n cap : Nat} : ∀ (t i : Nat) (w : World) (M : List Nat), SI w (.slice (some ⟨g, off, none⟩) n cap) M → i + t ≤ M.length →
    ∃ M', SI (w.setCells g (off + i) (List.replicate t (.int .i64 0))) (.slice (some ⟨g, off, none⟩) n cap) M' ∧ M'.take i = M.take i ∧ M'.length = M.length ∧ Chg [g] w (w.setCells g (off + i) (List.replicate t (.int .i64 0)))
  | 0, i, w, M, h, _ => ⟨M, h, rfl, rfl, Chg.refl _ _⟩
  | t + 1, i, w, M, h, hi => by
    have h1 : SI (w.setCell ⟨g, off + i, none⟩ (.int .i64 0)) (.slice (some ⟨g, off, none⟩) n cap) (M.set i 0) := SI.set h (k := i) (by omega) 0
    obtain ⟨M', a, b, d, e⟩ := si_zero t (i + 1) _ _ h1 (by rw [List.length_set]; omega)
    refine ⟨M', a, ?_, by rw [d, List.length_set], ((Chg.refl [g] w).setCell (p := ⟨g, off + i, none⟩) (.inl (by simp)) _).trans e (fun x hx => .inl hx)⟩
    have := congrArg (List.take i) b
    rw [List.take_take, List.take_take, Nat.min_eq_left (by omega)] at this
    rw [this, List.take_set_of_le (by omega)]
theorem run_zeroS {g off n cap : Nat} {w : World} {M : List Nat} (h : SI w (.slice (some ⟨g, off, none⟩) n cap) M) {t i : Nat} (hi : i + t ≤ M.length) :
    (storeCells ⟨g, off + i, none⟩ (List.replicate t (.int .i64 0))).run Try.prog w = .ok () (w.setCells g (off + i) (List.replicate t (.int .i64 0))) := by
  have := run_storeCells_cells (P := Try.prog) g (off + i) (List.replicate t (.int .i64 0)) 0 w (fun j hj => by
    rw [List.length_replicate] at hj
    have := SI.cell (SE.re h) (k := i + j) (by omega)
    rw [show off + i + 0 + j = off + (i + j) by omega, this]; rfl) (fun j _ => SE.frozen h _) (fun v hv => by obtain ⟨_, rfl⟩ := List.mem_replicate.1 hv; rfl)
  exact this
theorem wpList_clearS {ops : Array Oper} {rest : List Oper} {o : Oper} {a : Act} {w : World} {Q : Exit → Act → World → Prop} {g off n cap : Nat} {M : List Nat} {t i k : Nat} (hg : o.guard = none) (x : Operand) (ho : o.op = .call { callee := .builtin .clear, args := #[x], argTypes := #[30] })
    (hx : a.eval x = .slice (some ⟨g, off + i, none⟩) t k) (h0 : SI w (.slice (some ⟨g, off, none⟩) n cap) M) (hi : i + t ≤ M.length)
    (h : ∀ w' M', SI w' (.slice (some ⟨g, off, none⟩) n cap) M' → M'.take i = M.take i → M'.length = M.length → Chg [g] w w' → wpList Try.prog ops Q rest (a.put o.dst (.tuple #[])) w') : wpList Try.prog ops Q (o :: rest) a w := by
  obtain ⟨M', h1, h2, h3, h4⟩ := si_zero t i w M h0 hi
  have hr : (Builtin.clear_ #[30] o.type #[.slice (some ⟨g, off + i, none⟩) t k]).run Try.prog w = .ok (.tuple #[]) (w.setCells g (off + i) (List.replicate t (.int .i64 0))) := by
    cases t with
    | zero => simp [Builtin.clear_, run_underlying Try.underlying30, World.setCells]
    | succ t => simp [Builtin.clear_, run_underlying Try.underlying30, zero3, Value.cells, zeros1, run_zeroS h0 hi]
  exact Great.wpList_runTo hg _ rfl _ _ (by unfold execOp; simp only [ho, resolve, invoke, builtin, Sem.run_bind, Sem.run_pure, Result.andThen_ok, List.map_toArray, List.map_cons, List.map_nil, hx, hr]) (h _ M' h1 h2 h3 h4)
/-- what DeleteFunc leaves -/
def DelR (w : World) (v : Value) (p : Nat → Bool) (l : List Nat) (e : Ending) (w' : World) : Prop := ∃ A m cap, e = .returned (.slice A m cap) ∧ SI w' (.slice A m cap) (l.filter fun x => !p x) ∧ (∀ k ∈ own (.slice A m cap), k ∈ own v) ∧ Chg (own v) w w'
set_option maxHeartbeats 4000000 in
theorem del38_any {w : World} {A : Option Addr} {n cap : Nat} {l : List Nat} {bx : Nat} {p : Nat → Bool} (hs : SI w (.slice A n cap) l) (hlen : l.length ≤ 1000)
    (hcall : ∀ W, Chg (own (.slice A n cap)) w W → ∀ k : Nat, Calls Try.prog 38 #[.int .i64 k, .pointer (some ⟨bx, 0, none⟩)] W fun e w' => e = .returned (.bool (p k)) ∧ W = w') :
    Calls Try.prog 41 #[.slice A n cap, .func (.func 38) #[] #[.pointer (some ⟨bx, 0, none⟩)]] w (DelR w (.slice A n cap) p l) := by
  have HIX := hide (index38_any hs hlen (hcall w (Chg.refl _ _)))
  have HS := hide hs
  have hn : n = l.length := by
    obtain ⟨A', c', e'⟩ := hs.form
    injection e'
  subst hn
  have hcap : l.length ≤ cap := by
    obtain ⟨_, c', e', h1, _⟩ := Sl.cap_le hs
    injection e' with _ _ e3
    omega
  have HCALL := hide hcall
  clear hs hcall
  have hl2 : (l.length : Int) ≤ 1000 := by omega
  go_enter Try.func41, Try.ntmps41
  go_wp2_with fail
  refine HIX.out.mono ?_
  rintro e W ⟨⟨r, rfl, hr⟩, rfl⟩
  rcases hr with ⟨rfl, hall⟩ | ⟨i, rfl, hil, hpi, hpre⟩
  · have HF := hide (show (l.filter fun x => !p x) = l from List.filter_eq_self.2 fun x hx => by rw [hall x hx]; rfl)
    clear hall HIX
    go_wp2_with fail
    go_ret
    exact ⟨A, l.length, cap, rfl, by rw [HF.out]; exact HS.out, fun k hk => hk, Chg.refl _ _⟩
  · obtain ⟨g, off, rfl⟩ := SE.addr HS.out (by omega)
    have i1 : (0 : Int) ≤ (i : Int) := by omega
    have i2 : (i : Int) < (l.length : Int) := by omega
    have i3 : ((i : Int) == -1) = false := by simp
    have H0 := hide (show l.take i = (l.take (i + 1)).filter fun x => !p x by
      rw [List.take_succ_eq_append_getElem hil, List.filter_append, List.filter_eq_self.2 (fun x hx => by rw [hpre x hx]; rfl)]
      simp [hpi])
    clear hpi hpre HIX
    go_wp2_with fail
    go_loopw [5, 6] (fun s t wr => ∃ (i j : Nat) (M : List Nat), i < j ∧ j ≤ l.length ∧ s = .int .i64 i ∧ t = .int .i64 j ∧ Hid (M.length = l.length) ∧ Hid (M.take i = (l.take j).filter fun x => !p x) ∧ Hid (M.drop j = l.drop j) ∧ Hid (SI wr (.slice (some ⟨g, off, none⟩) l.length cap) M) ∧ Chg [g] w wr) (fun _ t _ => l.length - (intOf t).toNat)
    case atStart => exact ⟨i, i + 1, l, by omega, by omega, rfl, by go_num, hide rfl, H0, hide rfl, HS, Chg.refl _ _⟩
    case round =>
      clear H0 i1 i2 i3 hil
      obtain ⟨i, j, M, hij, hj, rfl, rfl, hml, hta, hdr, hsm, hch⟩ := hrel
      have i1 : (0 : Int) ≤ (i : Int) := by omega
      have i2 : (i : Int) < (l.length : Int) := by omega
      have hgl : g < wr.heap.size := hsm.out.own_lt g (by simp [own, Value.ownBlock])
      by_cases hjt : j < l.length
      · have hjM : j < M.length := by rw [hml.out]; exact hjt
        have e1 : M[j] = l[j] := by
          have h1 := List.drop_eq_getElem_cons hjM
          have h2 := List.drop_eq_getElem_cons hjt
          rw [hdr.out, h2] at h1
          injection h1 with h1 _
          exact h1.symm
        have e2 : M.drop (j + 1) = l.drop (j + 1) := by
          have h1 := List.drop_eq_getElem_cons hjM
          have h2 := List.drop_eq_getElem_cons hjt
          rw [hdr.out, h2] at h1
          injection h1 with _ h1
          exact h1.symm
        have qj := SI.cell (SE.re hsm.out) hjM
        rw [e1] at qj
        have htk : l.take (j + 1) = l.take j ++ [l[j]] := List.take_succ_eq_append_getElem hjt
        obtain ⟨y, hy⟩ : ∃ y, l[j] = y := ⟨_, rfl⟩
        rw [hy] at qj htk
        have HT := hide htk
        have HE2 := hide e2
        have j1 : (0 : Int) ≤ (j : Int) := by omega
        have j2 : (j : Int) < (l.length : Int) := by omega
        have fi := SE.frozen hsm.out (off + i)
        have qi := SI.cell (SE.re hsm.out) (k := i) (by omega)
        generalize M[i] = z at qi
        have HSET := hide (SI.set hsm.out (k := i) (by omega) y)
        have HST := hide (show (M.set i y).take (i + 1) = M.take i ++ [y] by
          rw [List.take_succ_eq_append_getElem (by rw [List.length_set]; omega), List.take_set_of_le (by omega)]
          simp)
        have HSD := hide (show (M.set i y).drop (j + 1) = M.drop (j + 1) from List.drop_set_of_lt (by omega))
        clear e1 e2 hy htk
        go_wp2_with fail
        refine (HCALL.out _ hch y).mono ?_
        rintro e W2 ⟨rfl, rfl⟩
        cases hp : p y with
        | true =>
          have HP := hide hp
          clear hp
          go_wp2_with fail
          go_roundw
          case rel => exact ⟨i, j + 1, M, by omega, by omega, rfl, by go_num, hml, hide (by rw [HT.out, List.filter_append, hta.out]; simp [HP.out]), HE2, hsm, hch⟩
          case measure => simp [intOf]; omega
        | false =>
          have HP := hide hp
          clear hp
          go_wp2_with fail
          go_roundw
          case rel => exact ⟨i + 1, j + 1, M.set i y, by omega, by omega, by go_num, by go_num, hide (by rw [List.length_set]; exact hml.out), hide (by rw [HST.out, HT.out, List.filter_append, hta.out]; simp [HP.out]), hide (by rw [HSD.out, HE2.out]), HSET, hch.setCell (p := ⟨g, off + i, none⟩) (.inl (by simp)) _⟩
          case measure => simp [intOf]; omega
      · obtain rfl : j = l.length := by omega
        have hci : ¬ cap = i := by omega
        have hci2 : (i : Int) ≤ (cap : Int) := by omega
        have hfin := hide (show M.take i = l.filter fun x => !p x by rw [hta.out, List.take_length])
        have hile : i + (l.length - i) ≤ M.length := by rw [hml.out]; omega
        have HI := hide hile
        clear hile
        go_wp2_with (first | (refine wpList_clearS (g := g) (off := off) (n := l.length) (cap := cap) (M := M) (i := i) (t := l.length - i) (k := cap - i) rfl _ rfl rfl hsm.out HI.out ?_; intro W5 M5 hs5 ht5 hl5 hc5; have HS5 := hide hs5; have HT5 := hide ht5; have HL5 := hide hl5; clear hs5 ht5 hl5))
        go_ret
        refine ⟨some ⟨g, off, none⟩, i, cap, rfl, ?_, fun k hk => hk, hch.trans hc5 (fun x hx => .inl hx)⟩
        have := SE.take ic_len HS5.out (k := i) (by rw [HL5.out, hml.out]; omega)
        rw [HT5.out, hfin.out] at this
        exact this
set_option maxHeartbeats 4000000 in
theorem del42_any {w : World} {A : Option Addr} {n cap : Nat} {l : List Nat} {bx : Nat} {p : Nat → Bool} (hs : SI w (.slice A n cap) l) (hlen : l.length ≤ 1000)
    (hcall : ∀ W, Chg (own (.slice A n cap)) w W → ∀ k : Nat, Calls Try.prog 42 #[.int .i64 k, .pointer (some ⟨bx, 0, none⟩)] W fun e w' => e = .returned (.bool (p k)) ∧ W = w') :
    Calls Try.prog 41 #[.slice A n cap, .func (.func 42) #[] #[.pointer (some ⟨bx, 0, none⟩)]] w (DelR w (.slice A n cap) p l) := by
  have HIX := hide (index42_any hs hlen (hcall w (Chg.refl _ _)))
  have HS := hide hs
  have hn : n = l.length := by
    obtain ⟨A', c', e'⟩ := hs.form
    injection e'
  subst hn
  have hcap : l.length ≤ cap := by
    obtain ⟨_, c', e', h1, _⟩ := Sl.cap_le hs
    injection e' with _ _ e3
    omega
  have HCALL := hide hcall
  clear hs hcall
  have hl2 : (l.length : Int) ≤ 1000 := by omega
  go_enter Try.func41, Try.ntmps41
  go_wp2_with fail
  refine HIX.out.mono ?_
  rintro e W ⟨⟨r, rfl, hr⟩, rfl⟩
  rcases hr with ⟨rfl, hall⟩ | ⟨i, rfl, hil, hpi, hpre⟩
  · have HF := hide (show (l.filter fun x => !p x) = l from List.filter_eq_self.2 fun x hx => by rw [hall x hx]; rfl)
    clear hall HIX
    go_wp2_with fail
    go_ret
    exact ⟨A, l.length, cap, rfl, by rw [HF.out]; exact HS.out, fun k hk => hk, Chg.refl _ _⟩
  · obtain ⟨g, off, rfl⟩ := SE.addr HS.out (by omega)
    have i1 : (0 : Int) ≤ (i : Int) := by omega
    have i2 : (i : Int) < (l.length : Int) := by omega
    have i3 : ((i : Int) == -1) = false := by simp
    have H0 := hide (show l.take i = (l.take (i + 1)).filter fun x => !p x by
      rw [List.take_succ_eq_append_getElem hil, List.filter_append, List.filter_eq_self.2 (fun x hx => by rw [hpre x hx]; rfl)]
      simp [hpi])
    clear hpi hpre HIX
    go_wp2_with fail
    go_loopw [5, 6] (fun s t wr => ∃ (i j : Nat) (M : List Nat), i < j ∧ j ≤ l.length ∧ s = .int .i64 i ∧ t = .int .i64 j ∧ Hid (M.length = l.length) ∧ Hid (M.take i = (l.take j).filter fun x => !p x) ∧ Hid (M.drop j = l.drop j) ∧ Hid (SI wr (.slice (some ⟨g, off, none⟩) l.length cap) M) ∧ Chg [g] w wr) (fun _ t _ => l.length - (intOf t).toNat)
    case atStart => exact ⟨i, i + 1, l, by omega, by omega, rfl, by go_num, hide rfl, H0, hide rfl, HS, Chg.refl _ _⟩
    case round =>
      clear H0 i1 i2 i3 hil
      obtain ⟨i, j, M, hij, hj, rfl, rfl, hml, hta, hdr, hsm, hch⟩ := hrel
      have i1 : (0 : Int) ≤ (i : Int) := by omega
      have i2 : (i : Int) < (l.length : Int) := by omega
      have hgl : g < wr.heap.size := hsm.out.own_lt g (by simp [own, Value.ownBlock])
      by_cases hjt : j < l.length
      · have hjM : j < M.length := by rw [hml.out]; exact hjt
        have e1 : M[j] = l[j] := by
          have h1 := List.drop_eq_getElem_cons hjM
          have h2 := List.drop_eq_getElem_cons hjt
          rw [hdr.out, h2] at h1
          injection h1 with h1 _
          exact h1.symm
        have e2 : M.drop (j + 1) = l.drop (j + 1) := by
          have h1 := List.drop_eq_getElem_cons hjM
          have h2 := List.drop_eq_getElem_cons hjt
          rw [hdr.out, h2] at h1
          injection h1 with _ h1
          exact h1.symm
        have qj := SI.cell (SE.re hsm.out) hjM
        rw [e1] at qj
        have htk : l.take (j + 1) = l.take j ++ [l[j]] := List.take_succ_eq_append_getElem hjt
        obtain ⟨y, hy⟩ : ∃ y, l[j] = y := ⟨_, rfl⟩
        rw [hy] at qj htk
        have HT := hide htk
        have HE2 := hide e2
        have j1 : (0 : Int) ≤ (j : Int) := by omega
        have j2 : (j : Int) < (l.length : Int) := by omega
        have fi := SE.frozen hsm.out (off + i)
        have qi := SI.cell (SE.re hsm.out) (k := i) (by omega)
        generalize M[i] = z at qi
        have HSET := hide (SI.set hsm.out (k := i) (by omega) y)
        have HST := hide (show (M.set i y).take (i + 1) = M.take i ++ [y] by
          rw [List.take_succ_eq_append_getElem (by rw [List.length_set]; omega), List.take_set_of_le (by omega)]
          simp)
        have HSD := hide (show (M.set i y).drop (j + 1) = M.drop (j + 1) from List.drop_set_of_lt (by omega))
        clear e1 e2 hy htk
        go_wp2_with fail
        refine (HCALL.out _ hch y).mono ?_
        rintro e W2 ⟨rfl, rfl⟩
        cases hp : p y with
        | true =>
          have HP := hide hp
          clear hp
          go_wp2_with fail
          go_roundw
          case rel => exact ⟨i, j + 1, M, by omega, by omega, rfl, by go_num, hml, hide (by rw [HT.out, List.filter_append, hta.out]; simp [HP.out]), HE2, hsm, hch⟩
          case measure => simp [intOf]; omega
        | false =>
          have HP := hide hp
          clear hp
          go_wp2_with fail
          go_roundw
          case rel => exact ⟨i + 1, j + 1, M.set i y, by omega, by omega, by go_num, by go_num, hide (by rw [List.length_set]; exact hml.out), hide (by rw [HST.out, HT.out, List.filter_append, hta.out]; simp [HP.out]), hide (by rw [HSD.out, HE2.out]), HSET, hch.setCell (p := ⟨g, off + i, none⟩) (.inl (by simp)) _⟩
          case measure => simp [intOf]; omega
      · obtain rfl : j = l.length := by omega
        have hci : ¬ cap = i := by omega
        have hci2 : (i : Int) ≤ (cap : Int) := by omega
        have hfin := hide (show M.take i = l.filter fun x => !p x by rw [hta.out, List.take_length])
        have hile : i + (l.length - i) ≤ M.length := by rw [hml.out]; omega
        have HI := hide hile
        clear hile
        go_wp2_with (first | (refine wpList_clearS (g := g) (off := off) (n := l.length) (cap := cap) (M := M) (i := i) (t := l.length - i) (k := cap - i) rfl _ rfl rfl hsm.out HI.out ?_; intro W5 M5 hs5 ht5 hl5 hc5; have HS5 := hide hs5; have HT5 := hide ht5; have HL5 := hide hl5; clear hs5 ht5 hl5))
        go_ret
        refine ⟨some ⟨g, off, none⟩, i, cap, rfl, ?_, fun k hk => hk, hch.trans hc5 (fun x hx => .inl hx)⟩
        have := SE.take ic_len HS5.out (k := i) (by rw [HL5.out, hml.out]; omega)
        rw [HT5.out, hfin.out] at this
        exact this
end Go.Proofs.Ytgehpdkhcjeldaa
