/- A kind has a field: bytes.ContainsRune, has; within, access. -/
import Derived.Test.YtinlpjgjjplceaaDoorCaK
import Derived.Lib.BytesEntry
import Derived.Lib.IndexLaws
import Derived.Lib.ConvBytes
namespace Go.Proofs.YtinlpjgjjplceaaDoor
open Go Go.RowKit

def ints (l : List Nat) : List Int := l.map fun n : Nat => (n : Int)
theorem index_mem {l : List Nat} (h8 : ∀ b ∈ l, b < 256) {f : Nat} (hf : f < 256) : 0 ≤ Lib.indexByte (Lib.bytesOf (ints l)) (UInt8.ofNat f) ↔ f ∈ l := by
  induction l with
  | nil => simp [Lib.bytesOf, Lib.indexByte, ints]
  | cons b l ih =>
    have ihl := ih (fun b hb => h8 b (List.mem_cons_of_mem _ hb))
    have hb := h8 b (List.mem_cons_self ..)
    have hge := Lib.indexByte_ge (Lib.bytesOf (ints l)) (UInt8.ofNat f)
    have he : Lib.bytesOf (ints (b :: l)) = UInt8.ofNat b :: Lib.bytesOf (ints l) := by simp [Lib.bytesOf, ints]
    rw [he]
    have hbf : (UInt8.ofNat b == UInt8.ofNat f) = decide (b = f) := by
      by_cases h : b = f
      · subst h; simp
      · rw [decide_eq_false h]
        refine beq_false_of_ne fun e => h ?_
        have := congrArg UInt8.toNat e
        simpa [Nat.mod_eq_of_lt hb, Nat.mod_eq_of_lt hf] using this
    unfold Lib.indexByte
    rw [hbf]
    by_cases h : b = f
    · subst h; simp
    · have hne : ¬ f = b := fun e => h e.symm
      simp only [h, decide_false, List.mem_cons, hne, false_or, ← ihl]
      generalize Lib.indexByte (Lib.bytesOf (ints l)) (UInt8.ofNat f) = z at hge ⊢
      by_cases hz : z = -1
      · subst hz; simp
      · have : (z == -1) = false := beq_false_of_ne hz
        simp [this]
        omega
set_option maxRecDepth 100000 in
set_option maxHeartbeats 4000000 in
theorem IndexByte_any {w : World} {v : Value} {l : List Nat} (hv : RB w v l) (h8 : ∀ b ∈ l, b < 256) (h0 : 0 < l.length) {f : Nat} (hf : f < 256) :
    Calls Tryd.prog 60 #[v, .int .u8 f] w fun e w' => (∃ z : Int, e = .returned (.int .i64 z) ∧ (0 ≤ z ↔ f ∈ l)) ∧ w = w' := by
  have hrun : ∃ z : Int, (Extern.BytealgIndexByte.indexByte #[v, .int .u8 f]).run Tryd.prog w = .ok (.int .i64 z) w ∧ (0 ≤ z ↔ f ∈ l) := by
    obtain ⟨A, c, rfl⟩ := RE.form hv
    obtain ⟨g, off, rfl⟩ := RE.addr hv h0
    refine ⟨_, Lib.run_indexByteSlice w g off l.length c (ints l) (by simp [ints]) (fun i hi => ?_) f, ?_⟩
    · have q := RE.cell ucl_len hv hi (j := 0) (by omega) rfl
      rw [Nat.mul_one, Nat.add_zero] at q
      rw [q]
      simp [ints, List.getD, List.getElem?_eq_getElem hi]
    · have := index_mem h8 hf
      simpa using this
  obtain ⟨z, hz, hi⟩ := hrun
  have HI := hide hi
  have hcall : ∀ args, (callFunc 66 args).run Tryd.prog w = ((Extern.BytealgIndexByte.indexByte args).run Tryd.prog w).andThen fun v w' => .ok (.value v) w' := fun args =>
    run_callFunc_extern Tryd.func66 (by kernel_rfl) (by kernel_rfl) (by kernel_rfl) (e := Extern.BytealgIndexByte.indexByte) (by kernel_rfl) args w
  clear hv h8 hi h0
  go_enter Tryd.func60, Tryd.ntmps60
  go_wp2_with fail
  go_ret
  exact ⟨⟨z, rfl, HI.out⟩, rfl⟩
set_option maxRecDepth 100000 in
set_option maxHeartbeats 4000000 in
theorem IndexRune_any {w : World} {v : Value} {l : List Nat} (hv : RB w v l) (h8 : ∀ b ∈ l, b < 256) (h0 : 0 < l.length) {f : Nat} (hf : f < 128) :
    Calls Tryd.prog 55 #[v, .int .i32 f] w fun e w' => (∃ z : Int, e = .returned (.int .i64 z) ∧ (0 ≤ z ↔ f ∈ l)) ∧ w = w' := by
  have HB := hide (IndexByte_any hv h8 h0 (f := f) (by omega))
  have f0 : (0 : Int) ≤ (f : Int) := by omega
  have f1 : (f : Int) < 128 := by omega
  have hw : IntKind.u8.wrap (f : Int) = (f : Int) := by rw [IntKind.wrap_u8]; omega
  clear hv h8 h0
  go_enter Tryd.func55, Tryd.ntmps55
  go_wp2_with fail
  refine HB.out.mono ?_
  rintro e W ⟨⟨z, rfl, hz⟩, rfl⟩
  have HZ := hide hz
  clear hz
  go_wp2_with fail
  go_ret
  exact ⟨⟨z, rfl, HZ.out⟩, rfl⟩
theorem ContainsRune_any {w : World} {v : Value} {l : List Nat} (hv : RB w v l) (h8 : ∀ b ∈ l, b < 256) (h0 : 0 < l.length) {f : Nat} (hf : f < 128) :
    Calls Tryd.prog 34 #[v, .int .i32 f] w fun e w' => e = .returned (.bool (l.contains f)) ∧ w = w' := by
  have HB := hide (IndexRune_any hv h8 h0 hf)
  clear hv h8 h0 hf
  go_enter Tryd.func34, Tryd.ntmps34
  go_wp2_with fail
  refine HB.out.mono ?_
  rintro e W ⟨⟨z, rfl, hz⟩, rfl⟩
  have HZ := hide hz
  clear hz
  go_wp2_with fail
  go_ret
  refine ⟨?_, rfl⟩
  have : decide (0 ≤ z) = l.contains f := by
    rw [Bool.eq_iff_iff]
    simpa using HZ.out
  simp [this]
/-- bytes of a string -/
theorem conv_bytes (w : World) (F : List Nat) (h8 : ∀ b ∈ F, b < 256) : ∃ c w', (convert 9 32 (.string (strB F))).run Tryd.prog w = .ok (.slice (some ⟨w.heap.size, 0, none⟩) F.length c) w' ∧ RB w' (.slice (some ⟨w.heap.size, 0, none⟩) F.length c) F ∧ Chg [] w w' := by
  have h := Lib.run_convert_string_bytes (P := Tryd.prog) w 9 32 5 (strB F) Tryd.underlying9 Tryd.underlying32 Tryd.underlying5
  rw [strB_size] at h
  refine ⟨_, _, h, ⟨by rw [fc_length ucl_len], _, _, rfl, grownCap_ge _ _ _ _, fun _ => ⟨_, _, rfl, fun j u hu => ?_⟩⟩, ?_⟩
  · have hj : j < F.length := by
      have h1 := (List.getElem?_eq_some_iff.1 hu).1
      rw [fc_length ucl_len] at h1
      omega
    have hg := fc_get ucl_len F j 0 hj (by omega)
    rw [Nat.mul_one, Nat.add_zero, hu] at hg
    have hc := Lib.bytesWorld_cell w 5 (strB F) j (by rw [strB_size]; exact hj)
    rw [Nat.zero_add, hc, hg]
    have h2 := h8 _ (List.getElem_mem hj)
    simp [ucl, strB, List.getD, List.getElem?_eq_getElem hj, Nat.mod_eq_of_lt h2]
  · refine ⟨?_, ?_, ?_, by rw [Lib.bytesWorld_size]; omega, fun k hk _ => Lib.bytesWorld_at_old w 5 (strB F) k hk⟩
    all_goals simp [Lib.bytesWorld, World.freeze, World.alloc, World.drew, -World.alloc_eq, -World.drew_eq]
set_option maxRecDepth 100000 in
set_option maxHeartbeats 4000000 in
theorem hasK_any {w : World} {b5 : Nat} {F : List Nat} (hb : Blk w b5 9 #[.string (strB F)]) (h0 : 0 < F.length) (h8 : ∀ b ∈ F, b < 256) {f : Nat} (hf : f < 128) :
    Calls Tryd.prog 33 #[.int .i32 f, .pointer (some ⟨b5, 0, none⟩)] w fun e w' => e = .returned (.bool (F.contains f)) ∧ Chg [] w w' := by
  have q0 := hb.cell 0
  simp at q0
  have ql := hb.lt
  obtain ⟨c, w1, hcv, hr, hc⟩ := conv_bytes w F h8
  have HB := hide (ContainsRune_any hr h8 h0 hf)
  have HC := hide hc
  clear hb hr hc h8 h0 hf
  go_enter Tryd.func33, Tryd.ntmps33
  go_wp2_with fail
  refine HB.out.mono ?_
  rintro e W ⟨rfl, rfl⟩
  go_wp2_with fail
  go_ret
  exact ⟨by simp, HC.out⟩
/-! ## within, access -/
theorem withinK_any (n a b : Int) (w : World) : Calls Tryd.prog 35 #[.int .i64 n, .int .i64 a, .int .i64 b] w fun e w' => e = .returned (.bool (decide (a ≤ n ∧ n ≤ b))) ∧ w = w' := by
  by_cases h1 : a ≤ n
  · by_cases h2 : n ≤ b
    · rw [decide_eq_true ⟨h1, h2⟩]
      have d1 : decide (a ≤ n) = true := decide_eq_true h1
      have d2 : decide (n ≤ b) = true := decide_eq_true h2
      go_enter Tryd.func35, Tryd.ntmps35
      go_wp2_with fail
      go_ret
      exact ⟨rfl, rfl⟩
    · rw [decide_eq_false (fun h => h2 h.2)]
      have d1 : decide (a ≤ n) = true := decide_eq_true h1
      have d2 : decide (n ≤ b) = false := decide_eq_false h2
      go_enter Tryd.func35, Tryd.ntmps35
      go_wp2_with fail
      go_ret
      exact ⟨rfl, rfl⟩
  · rw [decide_eq_false (fun h => h1 h.1)]
    have d1 : decide (a ≤ n) = false := decide_eq_false h1
    go_enter Tryd.func35, Tryd.ntmps35
    go_wp2_with fail
    go_ret
    exact ⟨rfl, rfl⟩
theorem accessK_any (addr size of : Int) (h0 : 0 ≤ of) (h1 : of ≤ 1000000) (w : World) : Calls Tryd.prog 37 #[.int .i64 addr, .int .i64 size, .int .i64 of] w fun e w' => e = .returned (.bool (decide ((1 ≤ size ∧ size ≤ 8) ∧ 0 ≤ addr ∧ addr ≤ of - size))) ∧ w = w' := by
  have HA := hide (fun W => withinK_any size 1 8 W)
  have HB := hide (fun W => withinK_any addr 0 (of - size) W)
  by_cases hs : 1 ≤ size ∧ size ≤ 8
  · rw [decide_eq_true hs] at HA
    have hd : decide ((1 ≤ size ∧ size ≤ 8) ∧ 0 ≤ addr ∧ addr ≤ of - size) = decide (0 ≤ addr ∧ addr ≤ of - size) := by simp [hs]
    rw [hd]
    obtain ⟨s1, s2⟩ := hs
    have hw : wrap64 (of - size) = of - size := by unfold wrap64; omega
    generalize decide (0 ≤ addr ∧ addr ≤ of - size) = r at HB ⊢
    clear hd
    go_enter Tryd.func37, Tryd.ntmps37
    go_wp2_with fail
    refine (HA.out _).mono ?_
    rintro e W ⟨rfl, rfl⟩
    go_wp2_with fail
    refine (HB.out _).mono ?_
    rintro e W ⟨rfl, rfl⟩
    go_wp2_with fail
    go_ret
    exact ⟨rfl, rfl⟩
  · rw [decide_eq_false hs] at HA
    rw [decide_eq_false (fun h => hs h.1)]
    clear hs
    go_enter Tryd.func37, Tryd.ntmps37
    go_wp2_with fail
    refine (HA.out _).mono ?_
    rintro e W ⟨rfl, rfl⟩
    go_wp2_with fail
    go_ret
    exact ⟨rfl, rfl⟩
end Go.Proofs.YtinlpjgjjplceaaDoor
