/- Write, Move, Frames. -/
import Derived.Test.YtblkfikcfgocgaaFrB
namespace Go.Proofs.Ytblkfikcfgocgaa
open Go Go.RowKit

theorem wpList_copy_runs {ops : Array Oper} {rest : List Oper} {o : Oper} {a : Act} {w w' : World} {Q : Exit → Act → World → Prop} (hg : o.guard = none) (s x : Operand) (ts : Array TypeId)
    (ho : o.op = .call { callee := .builtin .copy, args := #[s, x], argTypes := ts }) {v y u : Value} (hs : a.eval s = v) (hx : a.eval x = y)
    (hrun : (Builtin.copy_ ts o.type #[v, y]).run Try.prog w = .ok u w') (h : wpList Try.prog ops Q rest (a.put o.dst u) w') : wpList Try.prog ops Q (o :: rest) a w :=
  wpList_plain hg fun K hK => by
    unfold Oper.wp execOp
    simp only [ho, resolve, invoke, builtin, Sem.run_bind, Sem.run_pure, Result.andThen_ok, List.map_toArray, List.map_cons, List.map_nil, hs, hx, hrun]
    exact hK _ _ h
set_option maxRecDepth 20000 in
theorem FM.copy {w : World} {a gb gm : Nat} {c : Cf} {n : Nat} {B : List Nat} {M : List Mk} (h : FM w a gb gm c n B M) {f at_ k : Nat} (hf : f < n) (hk : at_ + k ≤ 256) {y : Value} {xs : List Nat} (hy : RB w y xs) (hx : xs.length = k) (h8 : ∀ x ∈ xs, x < 256) :
    ∃ w', (∀ ty, (Builtin.copy_ #[27, 27] ty #[paV gb f at_ k, y]).run Try.prog w = .ok (.int .i64 k) w') ∧ FM w' a gb gm c n (splice B (f * 256 + at_) xs) M ∧ Chg [gb] w w' := by
  have hlb := h.lb
  obtain ⟨n1, n2, n3⟩ := h.ne
  obtain ⟨⟨cb, cm, h0, h1, h2⟩, h3, h4, h5, h6, h7⟩ := h
  obtain ⟨w', hr, hs, hc⟩ := run_copy_b h1 hy (o := f * 256 + at_) (o' := if at_ = 256 then f * 256 else f * 256 + at_) (k := k) (cap := 256 - at_) hx (by omega) (fun h0 => by rw [if_neg (by omega)]) 0
  refine ⟨w', fun ty => ?_, ⟨⟨cb, cm, h0.chg hc (by simpa using n1), hs, h2.chg hc (fun k hk => by obtain rfl := own_one hk; simpa using fun h => n3 h.symm)⟩, h3, h4, fun x hx => (splice_mem hx).elim (h5 x) (h8 x), h6, h7⟩, hc⟩
  obtain ⟨w2, hr2, _, _⟩ := run_copy_b h1 hy (o := f * 256 + at_) (o' := if at_ = 256 then f * 256 else f * 256 + at_) (k := k) (cap := 256 - at_) hx (by omega) (fun h0 => by rw [if_neg (by omega)]) ty
  have : (Builtin.copy_ #[27, 27] ty #[paV gb f at_ k, y]).run Try.prog w = (Builtin.copy_ #[27, 27] 0 #[paV gb f at_ k, y]).run Try.prog w := rfl
  rw [this]
  exact hr
/-- the bytes behind a Write -/
def wrB (n : Nat) (B : List Nat) (f at_ : Int) (xs : List Nat) : List Nat := if paE n f at_ xs.length = 0 then splice B (f.toNat * 256 + at_.toNat) xs else B
theorem wrB_length {n : Nat} {B : List Nat} (hB : B.length = n * 256) (f at_ : Int) (xs : List Nat) : (wrB n B f at_ xs).length = B.length := by
  unfold wrB
  split
  · have := paE_ok (by assumption)
    rw [splice_length]
    omega
  · rfl
set_option maxRecDepth 20000 in
set_option maxHeartbeats 1000000 in
theorem Write_any {w : World} {a gb gm : Nat} {c : Cf} {n : Nat} {B : List Nat} {M : List Mk} (h : FM w a gb gm c n B M) (f at_ : Int) {y : Value} {xs : List Nat} (hy : RB w y xs) (hl : xs.length ≤ 1000000) (h8 : ∀ x ∈ xs, x < 256) :
    Calls Try.prog 12 #[.pointer (some ⟨a, 0, none⟩), .int .i64 f, .int .i64 at_, y] w fun e w' => e = .returned (.int .i64 (paE n f at_ xs.length)) ∧ FM w' a gb gm c n (wrB n B f at_ xs) M ∧ Chg [gb] w w' := by
  obtain ⟨A, cap, rfl⟩ := RE.form hy
  obtain ⟨x, hx⟩ : ∃ x, paE n f at_ xs.length = x := ⟨_, rfl⟩
  unfold wrB
  rw [hx]
  by_cases h0 : x = 0
  · subst h0
    rw [if_pos rfl]
    obtain ⟨q1, q2, q3, q4, q5, q6⟩ := paE_ok hx
    obtain ⟨f', rfl⟩ : ∃ f' : Nat, f = f' := ⟨f.toNat, by omega⟩
    obtain ⟨t, rfl⟩ : ∃ t : Nat, at_ = t := ⟨at_.toNat, by omega⟩
    have HP := hide (part_ok h (f := f') (at_ := t) (k := xs.length) (by omega) (by omega))
    obtain ⟨w2, hr, hm, hc⟩ := h.copy (f := f') (at_ := t) (by omega) (by omega) hy rfl h8
    obtain ⟨o', cp, e⟩ : ∃ o' cp, paV gb f' t xs.length = .slice (some ⟨gb, o', none⟩) xs.length cp := ⟨_, _, rfl⟩
    rw [e] at HP hr
    have HR := hide hr
    have HM := hide hm
    have HC := hide hc
    have l1 : (xs.length : Int) ≤ 256 := by omega
    clear q1 q2 q3 q4 q5 q6 hx e hr hm hc hy
    go_enter Try.func12, Try.ntmps12
    go_wp2_with fail
    refine HP.out.mono ?_
    rintro e w' ⟨rfl, rfl⟩
    go_wp2_with (refine wpList_copy_runs (o := ⟨some 22, _, _, _, _, _⟩) rfl _ _ _ rfl rfl rfl (HR.out _) ?_)
    go_ret
    exact ⟨rfl, HM.out, HC.out⟩
  · rw [if_neg h0]
    have HP := hide (part_not h hx h0 (by omega))
    have l1 : (xs.length : Int) ≤ 1000000 := by omega
    have HM := hide h
    have HN := hide (fun ty => run_copy_none (P := Try.prog) w 27 27 ty 5 none A 0 0 xs.length cap Try.underlying27 info5 (by simp))
    clear hx hy
    go_enter Try.func12, Try.ntmps12
    go_wp2_with fail
    refine HP.out.mono ?_
    rintro e w' ⟨rfl, rfl⟩
    go_wp2_with (refine wpList_copy_runs (o := ⟨some 22, _, _, _, _, _⟩) rfl _ _ _ rfl rfl rfl (HN.out _) ?_)
    go_ret
    exact ⟨rfl, HM.out, Chg.refl _ _⟩
set_option maxRecDepth 20000 in
set_option maxHeartbeats 1000000 in
theorem Frames_any {w : World} {a gb gm : Nat} {c : Cf} {n : Nat} {B : List Nat} {M : List Mk} (h : FM w a gb gm c n B M) :
    Calls Try.prog 16 #[.pointer (some ⟨a, 0, none⟩)] w fun e w' => e = .returned (.int .i64 n) ∧ w = w' := by
  obtain ⟨cm, hcm, qm, _⟩ := h.cm
  have hlt := h.lt.1
  have hn := h.n2
  clear h
  go_enter Try.func16, Try.ntmps16
  go_wp2_with fail
  go_ret
  exact ⟨rfl, rfl⟩
set_option maxRecDepth 20000 in
set_option maxHeartbeats 1000000 in
theorem Move_any {w : World} {a gb gm : Nat} {c : Cf} {n : Nat} {B : List Nat} {M : List Mk} (h : FM w a gb gm c n B M) {f t : Nat} (hf : f < n) (ht : t < n) :
    Calls Try.prog 15 #[.pointer (some ⟨a, 0, none⟩), .int .i64 f, .int .i64 t] w fun e w' => e = .returned (.int .i64 0) ∧ FM w' a gb gm c n (splice B (t * 256) (cut B f 0 256)) M ∧ Chg [gb] w w' := by
  have HP := hide (part_ok h (f := f) (at_ := 0) (k := 256) hf (by omega))
  have HQ := hide (part_ok h (f := t) (at_ := 0) (k := 256) ht (by omega))
  have hrb := part_rb h (f := f) (at_ := 0) (k := 256) hf (by omega)
  have hcl := cut_length h (f := f) (at_ := 0) (k := 256) hf (by omega)
  obtain ⟨w2, hr, hm, hc⟩ := h.copy (f := t) (at_ := 0) (k := 256) ht (by omega) hrb hcl (fun x hx => h.b8 x (List.mem_of_mem_drop (List.mem_of_mem_take hx)))
  obtain ⟨o1, cp1, e1⟩ : ∃ o' cp, paV gb f 0 256 = .slice (some ⟨gb, o', none⟩) 256 cp := ⟨_, _, rfl⟩
  obtain ⟨o2, cp2, e2⟩ : ∃ o' cp, paV gb t 0 256 = .slice (some ⟨gb, o', none⟩) 256 cp := ⟨_, _, rfl⟩
  rw [e1] at HP hr
  rw [e2] at HQ hr
  have HR := hide hr
  have HM := hide hm
  have HC := hide hc
  clear e1 e2 hr hm hc hrb hcl h
  go_enter Try.func15, Try.ntmps15
  go_wp2_with fail
  refine HP.out.mono ?_
  rintro e w' ⟨rfl, rfl⟩
  go_wp2_with fail
  refine HQ.out.mono ?_
  rintro e w' ⟨rfl, rfl⟩
  go_wp2_with (refine wpList_copy_runs (o := ⟨some 28, _, _, _, _, _⟩) rfl _ _ _ rfl rfl rfl (HR.out _) ?_)
  go_ret
  exact ⟨rfl, HM.out, HC.out⟩
end Go.Proofs.Ytblkfikcfgocgaa
