/- A call: its cells, its kind's fields. -/
import Derived.Test.YtinlpjgjjplceaaDoorCaA
import Derived.Laws.RangeAny
namespace Go.Proofs.YtinlpjgjjplceaaDoor
open Go Go.RowKit

/-- a call, its bytes as a list -/
structure Cl where
  k : Nat
  p : Int
  n : Int
  g : Int
  c : Int
  a : Int
  s : Int
  r : Nat
  ok : Nat
  om : Nat
  h : Nat
  l : List Nat
def clc (x : Cl) (v : Value) : Array Value := #[.int .u8 x.k, .int .i64 x.p, .int .i64 x.n, .int .i64 x.g, .int .i64 x.c, .int .i64 x.a, .int .i64 x.s, .int .u8 x.r, .int .u8 x.ok, .int .u8 x.om, .int .u64 x.h, v]
/-- its numbers are numbers of their kinds -/
structure Cl.Ok (x : Cl) : Prop where
  k : x.k < 256
  p : -9223372036854775808 ≤ x.p ∧ x.p ≤ 9223372036854775807
  n : -9223372036854775808 ≤ x.n ∧ x.n ≤ 9223372036854775807
  g : -9223372036854775808 ≤ x.g ∧ x.g ≤ 9223372036854775807
  c : -9223372036854775808 ≤ x.c ∧ x.c ≤ 9223372036854775807
  a : -9223372036854775808 ≤ x.a ∧ x.a ≤ 9223372036854775807
  s : -9223372036854775808 ≤ x.s ∧ x.s ≤ 9223372036854775807
  r : x.r < 256
  ok : x.ok < 256
  om : x.om < 256
  h : x.h < 18446744073709551616
  l : ∀ b ∈ x.l, b < 256
/-! ## In memory -/
abbrev KB (w : World) (b : Nat) (x : Cl) (v : Value) : Prop := Blk w b 34 (clc x v)
theorem info34 {x : Cl} {v : Value} : (Tryd.prog.info? 34).map (·.size) = some (clc x v).size := by
  have : (Tryd.prog.info? 34).map (·.size) = some 12 := by kernel_rfl
  exact this
theorem clc_one (x : Cl) {v : Value} (hv : v.oneCell' = true) : ((clc x v).all fun u => u.oneCell') = true := by
  simp [clc, show ∀ k z, (Value.int k z).oneCell' = true from fun _ _ => rfl, hv]
section
variable {ops : Array Oper} {rest : List Oper} {o : Oper} {a : Act} {w : World} {Q : Exit → Act → World → Prop} {b : Nat} {x y : Cl} {v u : Value}
theorem KB.load (h : KB w b x v) : (loadVar 34 ⟨b, 0, none⟩).run Tryd.prog w = .ok (.agg (clc x v)) w :=
  run_loadVar_row w b 34 34 _ (0, 0) _ h Tryd.underlying34 rfl info34
theorem KB.stay {w' : World} (h : KB w b x v) (hc : Chg [] w w') : KB w' b x v := Blk.chg h hc List.not_mem_nil
theorem wpList_load34 (hg : o.guard = none) (z : Operand) (ho : o.op = .load 34 z) (hx : a.eval z = .pointer (some ⟨b, 0, none⟩)) (h0 : KB w b x v) (h : wpList Tryd.prog ops Q rest (a.put o.dst (.agg (clc x v))) w) : wpList Tryd.prog ops Q (o :: rest) a w :=
  wpList_load_row hg 34 z ho b hx 34 _ (0, 0) _ h0 Tryd.underlying34 rfl info34 h
theorem wpList_store34 (hg : o.guard = none) (z t : Operand) (ho : o.op = .store 34 z t) (hx : a.eval z = .pointer (some ⟨b, 0, none⟩)) (hy : a.eval t = .agg (clc y u)) (hu : u.oneCell' = true) (h0 : KB w b x v)
    (h : ∀ w', KB w' b y u → Chg [b] w w' → wpList Tryd.prog ops Q rest (a.put o.dst undef) w') : wpList Tryd.prog ops Q (o :: rest) a w :=
  wpList_store_row hg 34 z t ho b _ hx hy 34 _ h0 info34 rfl (clc_one y hu) (h _ (setRow_heap w b _ _ _ _ h0) ((Chg.refl [b] w).setRow (.inl (by simp)) _))
theorem wpList_box34 (hg : o.guard = none) (z : Operand) (ho : o.op = .box 34 z) (hx : a.eval z = .agg (clc x v))
    (h : wpList Tryd.prog ops Q rest (a.put o.dst (.pointer (some ⟨w.heap.size, 0, none⟩))) (w.alloc (.cells (clc x v) 34))) : wpList Tryd.prog ops Q (o :: rest) a w :=
  Great.wpList_runTo hg _ rfl _ _ (by unfold execOp; simp only [ho, hx, Sem.run_bind, Instr.box, newVar, newRow, run_newObj_alloc, Sem.run_pure, Result.andThen_ok, Value.cells]) h
/-- the zero call -/
def zCl : Cl := ⟨0, 0, 0, 0, 0, 0, 0, 0, 0, 0, 0, []⟩
def zV : Value := .slice none 0 0
theorem zero34 : ∀ w, (zeroValue 34).run Tryd.prog w = .ok (.agg (clc zCl zV)) w := by
  have h : (Tryd.prog.info? 34).map (fun i => (i.zero, i.size)) = some (some (.agg (clc zCl zV)), 12) := by kernel_rfl
  exact (zero_of_info h).1
theorem run_alloc34 (w : World) : (Instr.alloc 34 true (.tuple #[])).run Tryd.prog w = .ok (.pointer (some ⟨w.heap.size, 0, none⟩)) (w.alloc (.cells (clc zCl zV) 34)) := by
  simp [Instr.alloc, Sem.run_bind, zero34, newVar, newRow, run_newObj_alloc, Value.cells, clc, zCl, zV]
theorem wpList_alloc34 (hg : o.guard = none) (ho : o.op = .alloc 34)
    (h : wpList Tryd.prog ops Q rest (a.put o.dst (.pointer (some ⟨w.heap.size, 0, none⟩))) (w.alloc (.cells (clc zCl zV) 34))) : wpList Tryd.prog ops Q (o :: rest) a w :=
  Great.wpList_runTo hg _ rfl _ _ (by unfold execOp; simp only [ho, Sem.run_bind, run_alloc34, Sem.run_pure, Result.andThen_ok]) h
end
theorem KB.cells {w : World} {b : Nat} {x : Cl} {v : Value} (h : KB w b x v) :
    w.cell? ⟨b, 0, none⟩ = some (.int .u8 x.k) ∧ w.cell? ⟨b, 1, none⟩ = some (.int .i64 x.p) ∧ w.cell? ⟨b, 2, none⟩ = some (.int .i64 x.n) ∧ w.cell? ⟨b, 3, none⟩ = some (.int .i64 x.g) ∧ w.cell? ⟨b, 4, none⟩ = some (.int .i64 x.c) ∧ w.cell? ⟨b, 5, none⟩ = some (.int .i64 x.a) ∧ w.cell? ⟨b, 6, none⟩ = some (.int .i64 x.s) ∧
      w.cell? ⟨b, 7, none⟩ = some (.int .u8 x.r) ∧ w.cell? ⟨b, 8, none⟩ = some (.int .u8 x.ok) ∧ w.cell? ⟨b, 9, none⟩ = some (.int .u8 x.om) ∧ w.cell? ⟨b, 10, none⟩ = some (.int .u64 x.h) ∧ w.cell? ⟨b, 11, none⟩ = some v ∧ b < w.heap.size ∧ ∀ i, w.frozen? ⟨b, i, none⟩ = false :=
  ⟨by simpa [clc] using Blk.cell h 0, by simpa [clc] using Blk.cell h 1, by simpa [clc] using Blk.cell h 2, by simpa [clc] using Blk.cell h 3, by simpa [clc] using Blk.cell h 4, by simpa [clc] using Blk.cell h 5, by simpa [clc] using Blk.cell h 6, by simpa [clc] using Blk.cell h 7, by simpa [clc] using Blk.cell h 8, by simpa [clc] using Blk.cell h 9, by simpa [clc] using Blk.cell h 10, by simpa [clc] using Blk.cell h 11, Blk.lt h, Blk.frozen h⟩
/-! ## The kinds' fields -/
def fld : Nat → List Nat
  | 1 => [46] | 2 => [112] | 3 => [112, 103, 99, 114] | 4 => [112, 103, 99] | 5 => [112, 103, 99, 114] | 6 => [112, 103, 99] | 7 => [112, 103, 99]
  | 8 => [112, 97, 115] | 9 => [112, 97, 98] | 10 => [115] | 11 => [104] | 12 => [104, 97, 115] | 13 => [104, 97, 98] | 14 => [112, 111] | 15 => [112, 103, 99, 111]
  | 16 => [112, 103] | 17 => [112, 103] | 18 => [112, 103, 99, 110] | 19 => [110] | 20 => [110] | 21 => [46] | _ => []
theorem fld_big {k : Nat} (h : 22 ≤ k) : fld k = [] := by
  obtain ⟨j, rfl⟩ : ∃ j, k = j + 22 := ⟨k - 22, by omega⟩
  rfl
def letter (f : Nat) : Prop := f = 46 ∨ f = 112 ∨ f = 103 ∨ f = 99 ∨ f = 110 ∨ f = 97 ∨ f = 115 ∨ f = 114 ∨ f = 111 ∨ f = 104 ∨ f = 98
theorem fld_mem {k f : Nat} (h : f ∈ fld k) : letter f := by
  by_cases hk : k < 22
  · have : ∀ k : Fin 22, ∀ f ∈ fld k.val, f = 46 ∨ f = 112 ∨ f = 103 ∨ f = 99 ∨ f = 110 ∨ f = 97 ∨ f = 115 ∨ f = 114 ∨ f = 111 ∨ f = 104 ∨ f = 98 := by decide
    exact this ⟨k, hk⟩ f h
  · rw [fld_big (by omega)] at h; cases h
theorem letter_lt {f : Nat} (h : letter f) : f < 128 := by unfold letter at h; omega
theorem fld_lt {k f : Nat} (h : f ∈ fld k) : f < 256 := by have := letter_lt (fld_mem h); omega
theorem fld_len (k : Nat) : (fld k).length ≤ 4 := by
  by_cases hk : k < 22
  · have : ∀ k : Fin 22, (fld k.val).length ≤ 4 := by decide
    exact this ⟨k, hk⟩
  · rw [fld_big (by omega)]; simp
/-- the listed variable reads so -/
def FW (w : World) : Prop := ∀ k, k < 22 → w.cell? ⟨0, k, none⟩ = some (.string (strB (fld k)))
theorem FW.chg {w w' : World} {F : List Nat} (h : FW w) (hc : Chg F w w') (hF : 0 ∉ F) : FW w' := fun k hk => Chg.cell hc (h k hk) hF
theorem FW.stay {w w' : World} (h : FW w) (hc : Chg [] w w') : FW w' := h.chg hc List.not_mem_nil
theorem FW.pos {w : World} (h : FW w) : 0 < w.heap.size := World.block_lt_of_cell? w _ (h 0 (by omega))
theorem of_any {w : World} (hf : FW w) {k : Nat} (hk : k < 256) : Calls Tryd.prog 32 #[.int .u8 k] w fun e w' => e = .returned (.string (strB (fld k))) ∧ w = w' := by
  by_cases h22 : k < 22
  · have hc := hf k h22
    have hp := hf.pos
    have d1 : decide (22 ≤ (k : Int)) = false := decide_eq_false (by omega)
    have d2 : decide (22 ≤ k) = false := decide_eq_false (by omega)
    have i0 : (0 : Int) ≤ (k : Int) := by omega
    have i1 : (k : Int) < 22 := by omega
    generalize strB (fld k) = s at hc ⊢
    clear hf
    go_enter Tryd.func32, Tryd.ntmps32
    go_wp2_with fail
    go_ret
    exact ⟨rfl, rfl⟩
  · rw [fld_big (by omega)]
    have d1 : decide (22 ≤ (k : Int)) = true := decide_eq_true (by omega)
    have d2 : decide (22 ≤ k) = true := decide_eq_true (by omega)
    clear hf
    go_enter Tryd.func32, Tryd.ntmps32
    go_wp2_with fail
    go_ret
    exact ⟨rfl, rfl⟩
/-! ## Ranging over a string -/
def Itr (w : World) (b : Nat) (l : List Nat) (j : Nat) : Prop := w.heap[b]? = some (.stringIter (strB l) j)
theorem Itr.lt {w : World} {b j : Nat} {l : List Nat} (h : Itr w b l j) : b < w.heap.size := (Array.getElem?_eq_some_iff.1 h).1
theorem Itr.chg {w w' : World} {b j : Nat} {l : List Nat} {F : List Nat} (h : Itr w b l j) (hc : Chg F w w') (hF : b ∉ F) : Itr w' b l j := (hc.block b h.lt hF).trans h
theorem strB_size (l : List Nat) : (strB l).size = l.length := by simp [strB, ByteArray.size]
theorem strB_get {l : List Nat} {j : Nat} (hj : j < l.length) (hl : l[j] < 256) : ((strB l)[j]'(by rw [strB_size]; exact hj)).toNat = l[j] := by
  have : (strB l)[j]'(by rw [strB_size]; exact hj) = UInt8.ofNat l[j] := by
    show (strB l).data[j]'_ = _
    simp [strB]
  rw [this]
  simp [Nat.mod_eq_of_lt hl]
theorem Itr.next {w : World} {b j : Nat} {l : List Nat} (h : Itr w b l j) (hj : j < l.length) (ha : l[j] < 128) : ∃ w', (∀ ty, (Instr.next (.pointer (some ⟨b, 0, none⟩)) true ty).run Tryd.prog w = .ok (.tuple #[.bool true, .int .i64 j, .int .i32 l[j]]) w') ∧ Itr w' b l (j + 1) ∧ Chg [b] w w' := by
  have hs : j < (strB l).size := by rw [strB_size]; exact hj
  have hd := decode_ascii (strB l) j hs (by rw [strB_get hj (by omega)]; exact ha)
  rw [strB_get hj (by omega)] at hd
  refine ⟨{ w with heap := w.heap.setIfInBounds b (.stringIter (strB l) (j + 1)) }, fun ty => ?_, ?_, ⟨rfl, rfl, rfl, by simp, fun k hk hn => ?_⟩⟩
  · simp only [Instr.next, getObj, setObj, Sem.run_bind, Sem.run, (show w.heap[b]? = _ from h), Result.andThen, hs, if_true, hd]
    simp [goInt]
  · show (w.heap.setIfInBounds b _)[b]? = _
    rw [Array.getElem?_setIfInBounds_self_of_lt h.lt]
  · show (w.heap.setIfInBounds b _)[k]? = _
    rw [Array.getElem?_setIfInBounds_ne (by simpa using fun e => hn (by simp [e]))]
theorem Itr.done {w : World} {b : Nat} {l : List Nat} (h : Itr w b l l.length) : ∀ ty, (Instr.next (.pointer (some ⟨b, 0, none⟩)) true ty).run Tryd.prog w = .ok (.tuple #[.bool false]) w := fun ty => by
  have hs : ¬ l.length < (strB l).size := by rw [strB_size]; omega
  simp [Instr.next, getObj, Sem.run, (show w.heap[b]? = _ from h), hs]
theorem Itr.new (w : World) (l : List Nat) : Itr (w.iter (strB l) 0) w.heap.size l 0 := World.iter_heap w _ 0
theorem chg_iter (w : World) (s : ByteArray) : Chg [] w (w.iter s 0) := (Chg.refl [] w).alloc _
/-! ## The field that is a number -/
def numO (f : Nat) : Option Nat := if f = 112 then some 1 else if f = 103 then some 3 else if f = 99 then some 4 else if f = 110 then some 2 else if f = 97 then some 5 else if f = 115 then some 6 else none
def ptrO (b : Nat) : Option Nat → Value
  | none => .pointer none
  | some o => .pointer (some ⟨b, o, none⟩)
theorem number_any {w : World} {b : Nat} (hb : b < w.heap.size) {f : Nat} (hf : letter f) : Calls Tryd.prog 43 #[.pointer (some ⟨b, 0, none⟩), .int .i32 f] w fun e w' => e = .returned (.tuple #[ptrO b (numO f), .bool (numO f).isSome]) ∧ w = w' := by
  unfold letter at hf
  rcases hf with rfl | rfl | rfl | rfl | rfl | rfl | rfl | rfl | rfl | rfl | rfl
  all_goals
    simp only [numO, ptrO, reduceIte, Nat.reduceEqDiff, Option.isSome]
    go_enter Tryd.func43, Tryd.ntmps43
    go_wp2_with fail
    go_ret2
    exact ⟨rfl, rfl⟩
end Go.Proofs.YtinlpjgjjplceaaDoor
