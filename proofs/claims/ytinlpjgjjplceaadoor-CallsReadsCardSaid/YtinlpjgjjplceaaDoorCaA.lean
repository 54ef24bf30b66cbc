/- Bytes, words, strings; plain fields of a call's kinds. -/
import Derived.Test.YtinlpjgjjplceaaDoorCfF
import Derived.WalkSpells
import Derived.Laws.IdiomStrings
import Derived.Laws.BitsAllLaws
namespace Go.Proofs.YtinlpjgjjplceaaDoor
open Go Go.RowKit

/-! ## Bytes in memory -/
def ucl (x : Nat) : List Value := [.int .u8 x]
theorem ucl_len (x : Nat) : (ucl x).length = 1 := rfl
abbrev SB (w : World) (v : Value) (B : List Nat) : Prop := SE ucl 1 5 w v B
abbrev RB (w : World) (v : Value) (B : List Nat) : Prop := RE ucl 1 w v B
theorem ucl_one (l : List Nat) : ∀ u ∈ fc ucl l, u.oneCell' = true := fun u hu => by
  unfold fc at hu
  obtain ⟨x, _, hx⟩ := List.mem_flatMap.1 hu
  simp [ucl] at hx
  subst hx
  rfl
theorem info5b : (Tryd.prog.info? 5).map (fun i => (i.zero, i.size, i.bytes)) = some (some (.int .u8 0), 1, 1) := by kernel_rfl
theorem wpList_append_b {ops : Array Oper} {rest : List Oper} {o : Oper} {a : Act} {w : World} {Q : Exit → Act → World → Prop} (hg : o.guard = none) (s x : Operand)
    (ho : o.op = .call { callee := .builtin .append, args := #[s, x], argTypes := #[32, 32] }) (v y : Value) (hs : a.eval s = v) (hx : a.eval x = y) {l m : List Nat} (hv : SB w v l) (hy : RB w y m) (hlen : l.length + m.length ≤ 1000000)
    (h : ∀ A n c w', Hid (n = (l ++ m).length) → SB w' (.slice A n c) (l ++ m) → Chg (own v) w w' → Grow w v (.slice A n c) → wpList Tryd.prog ops Q rest (a.put o.dst (.slice A n c)) w') :
    wpList Tryd.prog ops Q (o :: rest) a w := by
  obtain ⟨i5, hi, hz, hi1, hi2⟩ := info_parts info5b
  refine wpList_append_sl hg s x 32 ho 5 Tryd.underlying32 hi hz hi1 hi2 rfl hs hv hx hy (ucl_one m) (by unfold maxLen; omega) (by omega) fun v' w' h2 h3 h4 => ?_
  have h2' : SB w' v' (l ++ m) := by
    unfold SB SE
    rw [List.length_append, fc_append]
    exact h2
  obtain ⟨A, c, rfl⟩ := h2'.form
  exact h A _ c w' rfl h2' h3 (grow_of h4)
theorem RB_one (w : World) (k : Nat) : RB (w.alloc (.cells #[.int .u8 (k : Nat)] 5)) (.slice (some ⟨w.heap.size, 0, none⟩) 1 1) [k] := Rd_new w 5 1 1 [.int .u8 k] rfl
/-- bytes, as a string -/
def strB (l : List Nat) : ByteArray := ⟨(l.map UInt8.ofNat).toArray⟩
theorem run_str {w : World} {v : Value} {l : List Nat} (h : RB w v l) (h8 : ∀ x ∈ l, x < 256) : (convert 32 9 v).run Tryd.prog w = .ok (.string (strB l)) w := by
  obtain ⟨A, c, rfl⟩ := RE.form h
  rcases Nat.eq_zero_or_pos l.length with h0 | h0
  · obtain rfl : l = [] := List.eq_nil_of_length_eq_zero h0
    rw [run_convert_bytes_string w 32 9 5 A _ c Tryd.underlying32 Tryd.underlying5 Tryd.underlying9]
    cases A with
    | none => simp [Conv.bytesToString, strB]; rfl
    | some a =>
      have := run_bytesToString (P := Tryd.prog) w a 0 c [] (by rfl)
      have e : strB [] = ByteArray.empty := rfl
      rw [e]
      simpa using this
  · obtain ⟨g, off, rfl⟩ := RE.addr h h0
    have hl : (l.map UInt8.ofNat).length = l.length := by simp
    rw [← hl]
    refine run_convert_bytes_back w 32 9 5 ⟨g, off, none⟩ c (l.map UInt8.ofNat) Tryd.underlying32 Tryd.underlying5 Tryd.underlying9 fun j hj => ?_
    rw [hl] at hj
    have := RE.cell ucl_len h hj (j := 0) (by omega) rfl
    rw [Addr.add_lit]
    rw [Nat.mul_one, Nat.add_zero] at this
    rw [this, List.getElem_map]
    congr 2
    have h2 := h8 _ (List.getElem_mem hj)
    simp [Nat.mod_eq_of_lt h2]
theorem strB_inj {l m : List Nat} (hl : ∀ x ∈ l, x < 256) (hm : ∀ x ∈ m, x < 256) (h : strB l = strB m) : l = m := by
  unfold strB at h
  injection h with h
  have h1 : l.map UInt8.ofNat = m.map UInt8.ofNat := by simpa using h
  have hlen : l.length = m.length := by simpa using congrArg List.length h1
  refine List.ext_getElem hlen fun i h2 h3 => ?_
  have h4 : (l.map UInt8.ofNat)[i]? = (m.map UInt8.ofNat)[i]? := by rw [h1]
  rw [List.getElem?_map, List.getElem?_map, List.getElem?_eq_getElem h2, List.getElem?_eq_getElem h3] at h4
  have h5 : UInt8.ofNat l[i] = UInt8.ofNat m[i] := by simpa using h4
  have h6 := congrArg UInt8.toNat h5
  have a1 := hl _ (List.getElem_mem h2)
  have a2 := hm _ (List.getElem_mem h3)
  simpa [Nat.mod_eq_of_lt a1, Nat.mod_eq_of_lt a2] using h6
theorem bytes_beq (a b : ByteArray) : (a == b) = (a.data == b.data) := by cases a; cases b; rfl
theorem strB_eq {l m : List Nat} (hl : ∀ x ∈ l, x < 256) (hm : ∀ x ∈ m, x < 256) : (strB l == strB m) = decide (l = m) := by
  rw [bytes_beq]
  by_cases h : l = m
  · subst h; simp
  · rw [decide_eq_false h]
    refine beq_false_of_ne fun e => h (strB_inj hl hm ?_)
    exact congrArg ByteArray.mk e
theorem loopE (bs : ByteArray) : ∀ (n i : Nat) (r : List UInt8), bs.size - i = n → ByteArray.toList.loop bs i r = r.reverse ++ bs.data.toList.drop i := by
  have hsz : bs.data.toList.length = bs.size := by rw [Array.length_toList]; rfl
  intro n
  induction n with
  | zero =>
    intro i r h
    rw [ByteArray.toList.loop]
    have : ¬ i < bs.size := by omega
    rw [if_neg this, List.drop_eq_nil_of_le (by omega)]
    simp
  | succ n ih =>
    intro i r h
    rw [ByteArray.toList.loop]
    have hi : i < bs.size := by omega
    rw [if_pos hi, ih (i + 1) _ (by omega)]
    have h2 : i < bs.data.toList.length := by omega
    rw [List.drop_eq_getElem_cons h2]
    have : bs.get! i = bs.data.toList[i] := by
      show bs.data[i]! = _
      rw [getElem!_pos bs.data i hi]
      simp
    simp [this]
theorem toListE (bs : ByteArray) : bs.toList = bs.data.toList := by
  unfold ByteArray.toList
  rw [loopE bs _ 0 [] rfl]
  simp
theorem strB_toList (l : List Nat) : (strB l).toList = l.map UInt8.ofNat := by rw [toListE]; simp [strB]
theorem strB_list {l m : List Nat} (hl : ∀ x ∈ l, x < 256) (hm : ∀ x ∈ m, x < 256) : ((strB l).toList == (strB m).toList) = decide (l = m) := by
  rw [toListE, toListE]
  by_cases h : l = m
  · subst h; simp
  · rw [decide_eq_false h]
    refine beq_false_of_ne fun e => h (strB_inj hl hm ?_)
    have : (strB l).data = (strB m).data := by
      have h1 := congrArg List.toArray e
      simpa using h1
    exact congrArg ByteArray.mk this
/-! ## Words -/
def le8 (x : Nat) : List Nat := (List.range 8).map fun k => x / 2 ^ (8 * k) % 256
theorem le8_length (x : Nat) : (le8 x).length = 8 := by simp [le8]
theorem le8_get (x : Nat) {k : Nat} (h : k < 8) : (le8 x)[k]? = some (x / 2 ^ (8 * k) % 256) := by
  unfold le8
  rw [List.getElem?_map, List.getElem?_range h]
  rfl
theorem le8_b (x : Nat) : ∀ b ∈ le8 x, b < 256 := fun b hb => by
  obtain ⟨k, _, rfl⟩ := List.mem_map.1 hb
  exact Nat.mod_lt _ (by omega)
def leN : List Nat → Nat
  | [] => 0
  | b :: l => b + 256 * leN l
theorem leN_snoc : ∀ (l : List Nat) (b : Nat), leN (l ++ [b]) = leN l + b * 2 ^ (8 * l.length)
  | [], b => by simp [leN]
  | a :: l, b => by
    have ih := leN_snoc l b
    have e : 2 ^ (8 * (l.length + 1)) = 256 * 2 ^ (8 * l.length) := by rw [Nat.mul_add, Nat.pow_add]; omega
    simp only [List.cons_append, leN, List.length_cons, ih, e]
    rw [Nat.mul_add, Nat.mul_left_comm]
    omega
theorem leN_lt : ∀ (l : List Nat), (∀ b ∈ l, b < 256) → leN l < 2 ^ (8 * l.length)
  | [], _ => by simp [leN]
  | a :: l, h => by
    have ih := leN_lt l (fun b hb => h b (List.mem_cons_of_mem _ hb))
    have ha := h a (List.mem_cons_self ..)
    have e : 2 ^ (8 * (l.length + 1)) = 256 * 2 ^ (8 * l.length) := by rw [Nat.mul_add, Nat.pow_add]; omega
    simp only [leN, List.length_cons, e]
    omega
theorem leN_le8 {x : Nat} (hx : x < 18446744073709551616) : leN (le8 x) = x := by
  simp only [le8, List.range_succ, List.range_zero, List.map_cons, List.map_nil, List.nil_append, List.cons_append, leN]
  omega
theorem le8_leN {l : List Nat} (hl : l.length = 8) (h : ∀ b ∈ l, b < 256) : le8 (leN l) = l := by
  match l, hl with
  | [a, b, c, d, e, f, g, i], _ =>
    have ha := h a (by simp); have hb := h b (by simp); have hc := h c (by simp); have hd := h d (by simp)
    have he := h e (by simp); have hf := h f (by simp); have hg := h g (by simp); have hi := h i (by simp)
    simp only [le8, List.range_succ, List.range_zero, List.map_cons, List.map_nil, List.nil_append, List.cons_append, leN]
    simp only [List.cons.injEq, and_true]
    refine ⟨?_, ?_, ?_, ?_, ?_, ?_, ?_, ?_⟩ <;> omega
theorem or_byte {z x k : Nat} (hz : z < 2 ^ (8 * k)) (hx : x < 256) (hk : k < 8) : bits BinOp.or IntKind.u64 (z : Int) (IntKind.u64.wrap ((x : Int) * 2 ^ (8 * k))) = ((z + x * 2 ^ (8 * k) : Nat) : Int) := by
  have h1 : x * 2 ^ (8 * k) < 18446744073709551616 := by
    have h2 : x * 2 ^ (8 * k) < 256 * 2 ^ (8 * k) := Nat.mul_lt_mul_of_pos_right hx (Nat.two_pow_pos _)
    have h3 : 256 * 2 ^ (8 * k) = 2 ^ (8 * k + 8) := by rw [Nat.pow_add]; omega
    have h4 : 2 ^ (8 * k + 8) ≤ 2 ^ 64 := Nat.pow_le_pow_right (by omega) (by omega)
    omega
  have h5 : z < 18446744073709551616 := by
    have h4 : 2 ^ (8 * k) ≤ 2 ^ 64 := Nat.pow_le_pow_right (by omega) (by omega)
    omega
  have h6 : ((x : Int) * 2 ^ (8 * k)) = ((x * 2 ^ (8 * k) : Nat) : Int) := by push_cast; rfl
  have h7 : IntKind.u64.wrap ((x * 2 ^ (8 * k) : Nat) : Int) = ((x * 2 ^ (8 * k) : Nat) : Int) := by rw [IntKind.wrap_u64]; omega
  rw [h6, h7, u64_or_nat _ _ h5 h1]
  have h8 := Nat.shiftLeft_add_eq_or_of_lt hz x
  rw [Nat.shiftLeft_eq] at h8
  rw [Nat.or_comm, ← h8, Nat.add_comm]
/-! ## Words as cells -/
def wcl (x : Nat) : List Value := [.int .u64 x]
theorem wcl_len (x : Nat) : (wcl x).length = 1 := rfl
abbrev RW (w : World) (v : Value) (B : List Nat) : Prop := RE wcl 1 w v B
/-- an int as a word, and back -/
def u64 (z : Int) : Nat := (z % 18446744073709551616).toNat
def i64 (n : Nat) : Int := if n < 9223372036854775808 then (n : Int) else (n : Int) - 18446744073709551616
theorem u64_lt (z : Int) : u64 z < 18446744073709551616 := by unfold u64; omega
theorem i64_u64 {z : Int} (h1 : -9223372036854775808 ≤ z) (h2 : z ≤ 9223372036854775807) : i64 (u64 z) = z := by unfold i64 u64; split <;> omega
theorem u64_i64 {n : Nat} (h : n < 18446744073709551616) : u64 (i64 n) = n := by unfold i64 u64; split <;> omega
theorem i64_in {n : Nat} (h : n < 18446744073709551616) : -9223372036854775808 ≤ i64 n ∧ i64 n ≤ 9223372036854775807 := by unfold i64; split <;> omega
end Go.Proofs.YtinlpjgjjplceaaDoor
