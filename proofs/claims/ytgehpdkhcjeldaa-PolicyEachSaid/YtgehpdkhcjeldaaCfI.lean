/- Lists of nodes; what config's Order sorts by; the insertion sort. -/
import Derived.Test.YtgehpdkhcjeldaaCfH
namespace Go.Proofs.Ytgehpdkhcjeldaa
open Go Go.RowKit

def ic (x : Nat) : List Value := [.int .i64 x]
theorem ic_len : ∀ x, (ic x).length = 1 := fun _ => rfl
/-- a slice of the call's own, of small numbers -/
abbrev SI := SE ic 1 3
abbrev RI := RE ic 1
theorem ic_one (l : List Nat) : ∀ u ∈ fc ic l, u.oneCell' = true := fun u hu => by
  obtain ⟨r, _, hr⟩ := List.mem_flatMap.1 hu
  obtain rfl := List.mem_singleton.1 hr
  rfl
theorem SI.cell {w : World} {g off n c : Nat} {l : List Nat} (h : RI w (.slice (some ⟨g, off, none⟩) n c) l) {k : Nat} (hk : k < l.length) : w.cell? ⟨g, off + k, none⟩ = some (.int .i64 (l[k] : Int)) := by
  have := RE.cell ic_len h hk (j := 0) (by omega) rfl
  simpa using this
theorem SI.set {w : World} {g off n c : Nat} {l : List Nat} (h : SI w (.slice (some ⟨g, off, none⟩) n c) l) {k : Nat} (hk : k < l.length) (x : Nat) : SI (w.setCell ⟨g, off + k, none⟩ (.int .i64 x)) (.slice (some ⟨g, off, none⟩) n c) (l.set k x) := by
  have := SE.set ic_len h hk (j := 0) (by omega) (u := .int .i64 x) (x := x) rfl
  simpa using this
theorem infoI : (Try.prog.info? 3).map (fun i => (i.zero, i.size, i.bytes)) = some (some (.int .i64 0), 1, 8) := by kernel_rfl
theorem wpList_append_i {ops : Array Oper} {rest : List Oper} {o : Oper} {a : Act} {w : World} {Q : Exit → Act → World → Prop} (hg : o.guard = none) (s x : Operand)
    (ho : o.op = .call { callee := .builtin .append, args := #[s, x], argTypes := #[30, 30] }) (v y : Value) (hs : a.eval s = v) (hx : a.eval x = y) {l m : List Nat} (hv : SI w v l) (hy : RI w y m) (hlen : l.length + m.length ≤ 1000000)
    (h : ∀ A n c w', Hid (n = (l ++ m).length) → SI w' (.slice A n c) (l ++ m) → Chg (own v) w w' → Grow w v (.slice A n c) → wpList Try.prog ops Q rest (a.put o.dst (.slice A n c)) w') :
    wpList Try.prog ops Q (o :: rest) a w := by
  obtain ⟨i3, hi, hz, hi1, hi2⟩ := info_parts infoI
  refine wpList_append_sl hg s x 30 ho 3 Try.underlying30 hi hz hi1 hi2 rfl hs hv hx hy (ic_one m) (by unfold maxLen; omega) (by omega) fun v' w' h2 h3 h4 => ?_
  have h2' : SI w' v' (l ++ m) := by
    unfold SI SE
    rw [List.length_append, fc_append]
    exact h2
  obtain ⟨A, c, rfl⟩ := h2'.form
  exact h A _ c w' rfl h2' h3 (grow_of h4)
theorem RI_one (w : World) (x : Nat) : RI (w.alloc (.cells #[.int .i64 x] 3)) (.slice (some ⟨w.heap.size, 0, none⟩) 1 1) [x] := Rd_new w 3 1 1 _ rfl

/-- the distance of a node from another one -/
abbrev ds (c : Cf) (node a : Nat) : Int := c (26 + node * 8 + a)
theorem cmp_any {c : Cf} {bc bn : Nat} {w : World} (hc : CB w bc c) (node : Nat) (hn : Blk w bn 3 #[.int .i64 node]) (hn8 : node < 8) {a b : Nat} (ha : a < 8) (hb : b < 8) (hd : ∀ i, i < 8 → 0 ≤ ds c node i ∧ ds c node i ≤ 255) :
    Calls Try.prog 31 #[.int .i64 a, .int .i64 b, .pointer (some ⟨bc, 0, none⟩), .pointer (some ⟨bn, 0, none⟩)] w fun e w' => e = .returned (.int .i64 (ds c node a - ds c node b)) ∧ Chg [] w w' := by
  have q1 := CB.get hc (i := 26 + node * 8 + a) (by omega)
  have q2 := CB.get hc (i := 26 + node * 8 + b) (by omega)
  have n0 := hn.cell 0
  simp at n0
  obtain ⟨d1, d2⟩ := hd a ha
  obtain ⟨d3, d4⟩ := hd b hb
  have a1 : (0 : Int) ≤ (a : Int) := by omega
  have a2 : (a : Int) < 8 := by omega
  have b1 : (0 : Int) ≤ (b : Int) := by omega
  have b2 : (b : Int) < 8 := by omega
  have m1 : (0 : Int) ≤ (node : Int) := by omega
  have m2 : (node : Int) < 8 := by omega
  unfold ds at d1 d2 d3 d4 ⊢
  clear hd hc hn
  go_enter Try.func31, Try.ntmps31
  go_wp2_with fail
  refine wp_region_t [1, 0, 0, 0, 0, 1, 1, 0, 0, 0, 0, 1, 0, 0] [none, none, none, none, none, none, none, none, none, none, none, none, none, none] (fun _ => True) (by kernel_rfl) (by kernel_rfl) (by kernel_rfl) ?_
  go_wp2_with (first | fail | (refine wpG_calc rfl (fun K hK => ?_)) | (refine wpG_skip ?_ ?_; (focus (simp [wantG]; done)); go_simp) | (refine wpG_take ?_ ?_; (focus (simp [wantG]; done))) | (refine wpG_pure (fun K hK => ?_); go_simp; refine hK _ _ ?_; clear hK K) | (refine wpG_deed (by decide) (fun K hK => ?_); go_simp) | (refine wpG_nil ?_))
  go_ret
  exact ⟨rfl, (Chg.refl [] w).drew⟩
end Go.Proofs.Ytgehpdkhcjeldaa
