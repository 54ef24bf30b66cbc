import Derived.Test.YtbmdcfeiecmlpaaDKpB
import Derived.Test.YtbmdcfeiecmlpaaDplB
namespace Go.Proofs.Ytbmdcfeiecmlpaa
open Go Go.RowKit

/-- a depot that the call has made, the box of its tally, the box of its sum, a slice of objects: all apart -/
structure TS (w W : World) (d r : Nat) (fs : List (List Ob)) (q : List Ob) (F : List Nat) (vm : Value) (M : List Ob) (vs : Value) (S : List Int) (sb tb : Nat) (t : Int) : Prop where
  dm : DMem 73 W d r fs q F
  nF : ∀ k ∈ F, w.heap.size ≤ k
  chg : Chg [] w W
  bs : Blk W sb 56 #[vs]
  bt : Blk W tb 3 #[.int .i64 t]
  si : SI W vs S
  sm : SO W vm M
  ns : w.heap.size ≤ sb ∧ sb ∉ F
  nt : w.heap.size ≤ tb ∧ tb ∉ F ∧ tb ∉ own vs
  nv : ∀ k ∈ own vs, w.heap.size ≤ k ∧ k ∉ F
  nm : ∀ k ∈ own vm, w.heap.size ≤ k ∧ k ∉ F
section
variable {w W W' : World} {d r sb tb n : Nat} {fs fs' : List (List Ob)} {q q' : List Ob} {F F' : List Nat} {vm vs V : Value} {M K : List Ob} {S J : List Int} {t : Int}
theorem TS.sb_vs (h : TS w W d r fs q F vm M vs S sb tb t) : sb ∉ own vs := fun hk => by
  obtain ⟨cur, hb⟩ := Sl.blk h.si hk
  exact h.bs.ne_ hb (by decide) rfl
theorem TS.sb_tb (h : TS w W d r fs q F vm M vs S sb tb t) : sb ≠ tb := h.bs.ne_ h.bt (by decide)
theorem TS.vm_no (h : TS w W d r fs q F vm M vs S sb tb t) {g : Nat} {T : TypeId} {cs : Array Value} (hb : Blk W g T cs) (hT : T ≠ 28) : g ∉ own vm := fun hk => by
  obtain ⟨cur, hb'⟩ := Sl.blk h.sm hk
  exact hb.ne_ hb' hT rfl
theorem TS.vm_vs (h : TS w W d r fs q F vm M vs S sb tb t) : Dj vm vs := fun k hk hk' => by
  obtain ⟨cur, hb⟩ := Sl.blk h.si hk'
  exact h.vm_no hb (by decide) hk
theorem TS.later (h : TS w W d r fs q F vm M vs S sb tb t) (hc : Chg [] W W') : TS w W' d r fs q F vm M vs S sb tb t :=
  { h with dm := h.dm.chg hc (by simp), chg := h.chg.trans hc (fun _ h => by cases h), bs := h.bs.chg hc (by simp), bt := h.bt.chg hc (by simp), si := Sl.chg h.si hc (fun _ _ h => by cases h), sm := Sl.chg h.sm hc (fun _ _ h => by cases h) }
theorem TS.op (h : TS w W d r fs q F vm M vs S sb tb t) (hd : DMem 73 W' d r fs' q' F') (hS : Step F F' W) (hc : Chg F W W') : TS w W' d r fs' q' F' vm M vs S sb tb t where
  dm := hd
  nF := fun k hk => (hS k hk).elim (h.nF k) (fun h' => Nat.le_trans h.chg.size h')
  chg := h.chg.trans hc (fun k hk => .inr (h.nF k hk))
  bs := h.bs.chg hc h.ns.2
  bt := h.bt.chg hc h.nt.2.1
  si := Sl.chg h.si hc (fun k hk => (h.nv k (own_mem.2 hk)).2)
  sm := Sl.chg h.sm hc (fun k hk => (h.nm k (own_mem.2 hk)).2)
  ns := ⟨h.ns.1, fun h' => (hS _ h').elim h.ns.2 (fun h2 => by have := h.bs.lt; omega)⟩
  nt := ⟨h.nt.1, fun h' => (hS _ h').elim h.nt.2.1 (fun h2 => by have := h.bt.lt; omega), h.nt.2.2⟩
  nv := fun k hk => ⟨(h.nv k hk).1, fun h' => (hS k h').elim (h.nv k hk).2 (fun h2 => by have := h.si.own_lt k hk; omega)⟩
  nm := fun k hk => ⟨(h.nm k hk).1, fun h' => (hS k h').elim (h.nm k hk).2 (fun h2 => by have := h.sm.own_lt k hk; omega)⟩
theorem TS.noM (h : TS w W d r fs q F vm M vs S sb tb t) : TS w W d r fs q F (.slice none 0 0) [] vs S sb tb t :=
  { h with sm := Sl.nil _ _ _, nm := fun k hk => by simp [own, Value.ownBlock] at hk }
theorem TS.appM (h : TS w W d r fs q F vm M vs S sb tb t) (hs : SO W' V K) (hc : Chg (own vm) W W') (hg : Grow W vm V) : TS w W' d r fs q F V K vs S sb tb t where
  dm := h.dm.chg hc (off_own h.nm)
  nF := h.nF
  chg := h.chg.trans hc (fun k hk => .inr (h.nm k hk).1)
  bs := h.bs.chg hc (h.vm_no h.bs (by decide))
  bt := h.bt.chg hc (h.vm_no h.bt (by decide))
  si := Sl.chg h.si hc (fun k hk => h.vm_vs.symm k (own_mem.2 hk))
  sm := hs
  ns := h.ns
  nt := h.nt
  nv := h.nv
  nm := new_grow h.chg.size h.nm h.dm.lt hg
theorem TS.newM (h : TS w W d r fs q F vm M vs S sb tb t) (hc : Chg [] W W') (hs : SO W' V K) (hn : ∀ k ∈ own V, W.heap.size ≤ k) : TS w W' d r fs q F V K vs S sb tb t :=
  (h.noM).appM hs (hc.mono (fun _ h => by cases h)) (fun k hk => .inr (hn k hk))
/-- the tally grows by an append, and its box takes it -/
theorem TS.appS (h : TS w W d r fs q F vm M vs S sb tb t) (hs : SI W' V J) (hc : Chg (own vs) W W') (hg : Grow W vs V) : TS w (W'.setCell ⟨sb, 0, none⟩ V) d r fs q F vm M V J sb tb t where
  dm := (h.dm.chg hc (off_own h.nv)).chg (G := [sb]) ((Chg.refl _ _).setCell (.inl (by simp)) _) (fun k hk e => h.ns.2 (by obtain rfl := List.mem_singleton.1 e; exact hk))
  nF := h.nF
  chg := (h.chg.trans hc (fun k hk => .inr (h.nv k hk).1)).setCell (.inr h.ns.1) _
  bs := by have := (h.bs.chg hc h.sb_vs).set_ 0 V; simpa using this
  bt := (h.bt.chg hc h.nt.2.2).far (Ne.symm h.sb_tb) _
  si := Sl.far hs (p := ⟨sb, 0, none⟩) (fun e => by
    have hb := (h.bs.chg hc h.sb_vs)
    obtain ⟨cur, hb'⟩ := Sl.blk hs (own_mem.2 e)
    exact hb.ne_ hb' (by decide) rfl) _
  sm := Sl.far (Sl.chg h.sm hc (fun k hk => h.vm_vs k (own_mem.2 hk))) (p := ⟨sb, 0, none⟩) (fun e => h.vm_no h.bs (by decide) (own_mem.2 e)) _
  ns := h.ns
  nt := ⟨h.nt.1, h.nt.2.1, fun hk => by
    rcases hg _ hk with h' | h'
    · exact h.nt.2.2 h'
    · have := h.bt.lt; omega⟩
  nv := new_grow h.chg.size h.nv h.dm.lt hg
  nm := h.nm
theorem TS.setS {g off c k : Nat} (h : TS w W d r fs q F vm M (.slice (some ⟨g, off, none⟩) n c) S sb tb t) (hk : k < S.length) (x : Int) : TS w (W.setCell ⟨g, off + k, none⟩ (.int .i64 x)) d r fs q F vm M (.slice (some ⟨g, off, none⟩) n c) (S.set k x) sb tb t :=
  have hc : Chg [g] W (W.setCell ⟨g, off + k, none⟩ (.int .i64 x)) := (Chg.refl _ _).setCell (.inl (by simp)) _
  have hg : g ∈ own (Value.slice (some ⟨g, off, none⟩) n c) := by simp [own, Value.ownBlock]
  have hn : ∀ v : Value, (g ∉ own v) → ∀ k, v.ownBlock = some k → k ∉ [g] := fun v hv k hk e => by obtain rfl := List.mem_singleton.1 e; exact hv (own_mem.2 hk)
  { h with
    dm := h.dm.chg hc (fun k hk e => by obtain rfl := List.mem_singleton.1 e; exact (h.nv _ hg).2 hk)
    chg := h.chg.trans hc (fun k hk => .inr (by obtain rfl := List.mem_singleton.1 hk; exact (h.nv _ hg).1))
    bs := h.bs.chg hc (fun e => by obtain rfl := List.mem_singleton.1 e; exact h.sb_vs hg)
    bt := h.bt.chg hc (fun e => by obtain rfl := List.mem_singleton.1 e; exact h.nt.2.2 hg)
    si := SI.set_ h.si hk x
    sm := Sl.chg h.sm hc (hn vm fun hk => h.vm_vs _ hk hg) }
theorem TS.setT (h : TS w W d r fs q F vm M vs S sb tb t) (x : Int) : TS w (W.setCell ⟨tb, 0, none⟩ (.int .i64 x)) d r fs q F vm M vs S sb tb x :=
  have hc : Chg [tb] W (W.setCell ⟨tb, 0, none⟩ (.int .i64 x)) := (Chg.refl _ _).setCell (.inl (by simp)) _
  { h with
    dm := h.dm.chg hc (fun k hk e => by obtain rfl := List.mem_singleton.1 e; exact h.nt.2.1 hk)
    chg := h.chg.trans hc (fun k hk => .inr (by obtain rfl := List.mem_singleton.1 hk; exact h.nt.1))
    bs := h.bs.far h.sb_tb _
    bt := by have := h.bt.set_ 0 (.int .i64 x); simpa using this
    si := Sl.far h.si (p := ⟨tb, 0, none⟩) (fun e => h.nt.2.2 (own_mem.2 e)) _
    sm := Sl.far h.sm (p := ⟨tb, 0, none⟩) (fun e => h.vm_no h.bt (by decide) (own_mem.2 e)) _ }
theorem TS.cells (h : TS w W d r fs q F vm M vs S sb tb t) : W.cell? ⟨sb, 0, none⟩ = some vs ∧ W.cell? ⟨tb, 0, none⟩ = some (.int .i64 t) ∧ W.frozen? ⟨sb, 0, none⟩ = false ∧ W.frozen? ⟨tb, 0, none⟩ = false := by
  have a := h.bs.cell 0
  have b := h.bt.cell 0
  simp at a b
  exact ⟨a, b, h.bs.frozen 0, h.bt.frozen 0⟩

theorem TS.s_stays (h : TS w W d r fs q F vm M vs S sb tb t) (hc : Chg (own vs) W W') : W'.cell? ⟨sb, 0, none⟩ = some vs ∧ W'.frozen? ⟨sb, 0, none⟩ = false := by
  have hb := h.bs.chg hc h.sb_vs
  have a := hb.cell 0
  simp at a
  exact ⟨a, hb.frozen 0⟩
/-! ## Contracts over the state -/
theorem ts_rounds (h : TS w W d r fs q F vm M vs S sb tb t) : Calls Try.prog 15 #[.pointer (some ⟨d, 0, none⟩)] W fun e w' => e = .returned (.int .i64 r) ∧ W = w' := by
  obtain ⟨A0, c0, A1, c1, vs, hb, _⟩ := h.dm.parts
  have x0 := hb.cell 0
  simp at x0
  exact drounds_at d r W x0
theorem ts_fulls (h : TS w W d r fs q F vm M vs S sb tb t) : Calls Try.prog 37 #[.pointer (some ⟨d, 0, none⟩)] W fun e w' => e = .returned (.int .i64 fs.length) ∧ W = w' := by
  obtain ⟨A0, c0, A1, c1, vs, hb, _⟩ := h.dm.parts
  have x0 := hb.cell 1
  simp at x0
  exact dfulls_at d _ _ _ W x0
theorem ts_queued (h : TS w W d r fs q F vm M vs S sb tb t) : Calls Try.prog 21 #[.pointer (some ⟨d, 0, none⟩)] W fun e w' => e = .returned (.int .i64 q.length) ∧ W = w' := by
  obtain ⟨A0, c0, A1, c1, vs, hb, _⟩ := h.dm.parts
  have x0 := hb.cell 2
  simp at x0
  exact dqueued_at d _ _ _ W x0
theorem ts_put (h : TS w W d r fs q F vm M vs S sb tb t) (hr : 1 ≤ r) (hr2 : r ≤ 1000) (hM : M.length = r) (hf : fs.length < 64) : Calls Try.prog 16 #[.pointer (some ⟨d, 0, none⟩), vm] W fun e w' => e = .returned (.int .i64 0) ∧ ∃ F', TS w w' d r (fs ++ [M]) q F' vm M vs S sb tb t := by
  refine (dput_yes hr h.dm h.sm.ro hM hr2 hf).mono ?_
  rintro e w' ⟨rfl, ⟨F', hd', hS⟩, hc⟩
  exact ⟨rfl, F', h.op hd' hS hc⟩
theorem ts_put_no (h : TS w W d r fs q F vm M vs S sb tb t) (hr : 1 ≤ r) (hM : M.length = r) (hr2 : r ≤ 1000) (hf : 64 ≤ fs.length) (hf2 : fs.length ≤ 1000) : Calls Try.prog 16 #[.pointer (some ⟨d, 0, none⟩), vm] W fun e w' => e = .returned (.int .i64 9) ∧ W = w' := by
  obtain ⟨A, c, rfl⟩ := h.sm.form
  refine (dput_no hr h.dm A M.length c (by omega) (by omega) (.inr hf)).mono ?_
  rintro e w' ⟨rfl, rfl⟩
  rw [if_neg (by omega)]
  exact ⟨rfl, rfl⟩
theorem ts_get {m : List Ob} (h : TS w W d r (fs ++ [m]) q F vm M vs S sb tb t) (hf : fs.length ≤ 1000) : Calls Try.prog 20 #[.pointer (some ⟨d, 0, none⟩)] W fun e w' => ∃ A c F', e = .returned (.tuple #[.slice A m.length c, .bool true]) ∧ TS w w' d r fs q F' (.slice A m.length c) m vs S sb tb t := by
  refine (dget_yes h.dm (by omega)).mono ?_
  rintro e w' ⟨⟨A, c, rfl, hs, ho, hd'⟩, hc⟩
  have h1 := h.op (F' := F.filter fun k => (Value.slice A m.length c).ownBlock != some k) hd' (fun k hk => .inl (List.mem_filter.1 hk).1) hc
  exact ⟨A, c, _, rfl, { h1.noM with sm := hs, nm := fun k hk => ⟨h.nF k (ho k hk).1, fun h' => by
    have := (List.mem_filter.1 h').2
    rw [own_mem.1 hk] at this
    simp at this⟩ }⟩
theorem ts_get_no (h : TS w W d r [] q F vm M vs S sb tb t) : Calls Try.prog 20 #[.pointer (some ⟨d, 0, none⟩)] W fun e w' => e = .returned (.tuple #[.slice none 0 0, .bool false]) ∧ W = w' := dget_no h.dm
theorem ts_queue (h : TS w W d r fs q F vm M vs S sb tb t) (hr : 1 ≤ r) (x y : Int) (hq : q.length ≤ 100000) : Calls Try.prog 17 #[.pointer (some ⟨d, 0, none⟩), .agg #[.int .i64 x, .int .i64 y]] W fun e w' => e = .returned (.tuple #[]) ∧ ∃ F', TS w w' d r fs (q ++ [(x, y)]) F' vm M vs S sb tb t := by
  refine (dqueue_at hr h.dm x y hq).mono ?_
  rintro e w' ⟨rfl, ⟨F', hd', hS⟩, hc⟩
  exact ⟨rfl, F', h.op hd' hS hc⟩
theorem ts_drain (h : TS w W d r fs q F vm M vs S sb tb t) (x : Int) (hq : q.length ≤ 100000) : Calls Try.prog 19 #[.pointer (some ⟨d, 0, none⟩), .int .i64 x] W fun e w' => ∃ A c, e = .returned (.slice A (q.take (drainN x q.length)).length c) ∧ TS w w' d r fs (q.drop (drainN x q.length)) F (.slice A (q.take (drainN x q.length)).length c) (q.take (drainN x q.length)) vs S sb tb t := by
  refine (drain_at h.dm x hq).mono ?_
  rintro e w' ⟨⟨A, c, rfl, hs, ho⟩, hd', hc⟩
  have h1 := h.noM.op hd' (fun k hk => .inl hk) hc
  exact ⟨A, c, rfl, { h1 with sm := hs, nm := fun k hk => ⟨Nat.le_trans h.chg.size (ho k (own_mem.1 hk)), fun h' => by have := h.dm.lt k h'; have := ho k (own_mem.1 hk); omega⟩ }⟩
theorem ts_flush (h : TS w W d r fs q F vm M vs S sb tb t) (hf : fs.length ≤ 1000) (hq : (dall fs q).length ≤ 1000000) : Calls Try.prog 43 #[.pointer (some ⟨d, 0, none⟩)] W fun e w' => ∃ A c, e = .returned (.slice A (dall fs q).length c) ∧ TS w w' d r [] [] F (.slice A (dall fs q).length c) (dall fs q) vs S sb tb t := by
  refine (flush_at h.dm hf hq).mono ?_
  rintro e w' ⟨⟨A, c, rfl, hs, ho⟩, hd', hc⟩
  have h1 := h.noM.op hd' (fun k hk => .inl hk) hc
  exact ⟨A, c, rfl, { h1 with sm := hs, nm := fun k hk => ⟨Nat.le_trans h.chg.size (ho k (own_mem.1 hk)), fun h' => by have := h.dm.lt k h'; have := ho k (own_mem.1 hk); omega⟩ }⟩
theorem ts_all (h : TS w W d r fs q F vm M vs S sb tb t) (hf : fs.length ≤ 1000) (hq : (dall fs q).length ≤ 1000000) : Calls Try.prog 38 #[.pointer (some ⟨d, 0, none⟩)] W fun e w' => ∃ A c, e = .returned (.slice A (dall fs q).length c) ∧ TS w w' d r fs q F vm M vs S sb tb t := by
  refine (dall_at h.dm hf hq).mono ?_
  rintro e w' ⟨⟨A, c, rfl, hs, ho⟩, hc⟩
  exact ⟨A, c, rfl, h.later hc⟩
theorem ts_take {R : List Int} (h : TS w W d r fs q F vm M vs (tal n (M.map Prod.fst ++ R)) sb tb t) (tog : Bool) (hnd : (M.map Prod.fst ++ R).Nodup) (hr : ∀ o ∈ M, 0 ≤ o.1 ∧ o.1 < (n : Int)) (hn : n ≤ 100000) (hM : M.length ≤ 100000) (ht : -1000000 ≤ t ∧ t ≤ 1000000)
    (htog : tog = true → ∀ (k : Nat) (h : k < M.length), M[k].1 = (M[0]'(by omega)).1 + k) (z : Int) (hz : z = t - M.length) :
    Calls Try.prog 45 #[vm, .bool tog, .pointer (some ⟨sb, 0, none⟩), .pointer (some ⟨tb, 0, none⟩)] W fun e w' => e = .returned (.bool true) ∧ TS w w' d r fs q F (.slice none 0 0) [] vs (tal n R) sb tb z := by
  subst hz
  obtain ⟨A, k0, rfl⟩ := h.sm.form
  cases hM0 : M with
  | nil =>
    subst hM0
    refine (take_none tog h.bt ht).mono ?_
    rintro e w' ⟨rfl, hb, hc⟩
    have e0 : t - (([] : List Ob).length : Int) = t := by simp
    rw [e0]
    exact ⟨rfl, { h.noM with
      dm := h.dm.chg hc (fun k hk e => by obtain rfl := List.mem_singleton.1 e; exact h.nt.2.1 hk)
      chg := h.chg.trans hc (fun k hk => .inr (by obtain rfl := List.mem_singleton.1 hk; exact h.nt.1))
      bs := h.bs.chg hc (fun e => by obtain rfl := List.mem_singleton.1 e; exact h.sb_tb rfl)
      bt := hb
      si := Sl.chg h.si hc (fun k hk e => by obtain rfl := List.mem_singleton.1 e; exact h.nt.2.2 (own_mem.2 hk))
      sm := Sl.nil _ _ _ }⟩
  | cons o M' =>
    rw [← hM0]
    obtain ⟨B, c, eV⟩ := h.si.form
    have hn0 : 0 < n := by
      have := hr o (by rw [hM0]; simp)
      omega
    rw [tal_length] at eV
    subst eV
    obtain ⟨g, off, rfl⟩ := SI.addr h.si hn0
    have hg : g ∈ own (Value.slice (some ⟨g, off, none⟩) n c) := by simp [own, Value.ownBlock]
    have hgt : g ≠ tb := fun e => h.nt.2.2 (e ▸ hg)
    refine (take_ok h.sm tog h.bs h.bt h.si hnd hr hn hM ht hgt htog).mono ?_
    rintro e w' ⟨rfl, hs, hb, hc⟩
    have ht0 : ∀ k ∈ [g, tb], k = g ∨ k = tb := fun k hk => by simpa using hk
    exact ⟨rfl, { h.noM with
      dm := h.dm.chg hc (fun k hk e => by
        rcases ht0 k e with rfl | rfl
        · exact (h.nv _ hg).2 hk
        · exact h.nt.2.1 hk)
      chg := h.chg.trans hc (fun k hk => .inr (by
        rcases ht0 k hk with rfl | rfl
        · exact (h.nv _ hg).1
        · exact h.nt.1))
      bs := h.bs.chg hc (fun e => by
        rcases ht0 _ e with rfl | rfl
        · exact h.sb_vs hg
        · exact h.sb_tb rfl)
      bt := hb
      si := hs
      sm := Sl.nil _ _ _ }⟩
end
end Go.Proofs.Ytbmdcfeiecmlpaa
