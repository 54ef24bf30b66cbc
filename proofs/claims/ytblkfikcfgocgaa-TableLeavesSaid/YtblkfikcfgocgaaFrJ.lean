/- Words. -/
import Derived.Test.YtblkfikcfgocgaaFrI
import Derived.Laws.BitsAllLaws
namespace Go.Proofs.Ytblkfikcfgocgaa
open Go Go.RowKit

/-- the eight bytes of a word, the lowest first -/
def le8 (x : Nat) : List Nat := (List.range 8).map fun k => x / 2 ^ (8 * k) % 256
theorem le8_length (x : Nat) : (le8 x).length = 8 := by simp [le8]
theorem le8_get (x : Nat) {k : Nat} (h : k < 8) : (le8 x)[k]? = some (x / 2 ^ (8 * k) % 256) := by
  unfold le8
  rw [List.getElem?_map, List.getElem?_range h]
  rfl
theorem le8_b (x : Nat) : ∀ b ∈ le8 x, b < 256 := fun b hb => by
  obtain ⟨k, _, rfl⟩ := List.mem_map.1 hb
  exact Nat.mod_lt _ (by omega)
/-- the word of bytes, the lowest first -/
def leN : List Nat → Nat
  | [] => 0
  | b :: l => b + 256 * leN l
theorem leN_snoc : ∀ (l : List Nat) (b : Nat), leN (l ++ [b]) = leN l + b * 2 ^ (8 * l.length)
  | [], b => by simp [leN]
  | a :: l, b => by
    have ih := leN_snoc l b
    have e : 2 ^ (8 * (l.length + 1)) = 256 * 2 ^ (8 * l.length) := by rw [Nat.mul_add, Nat.pow_add]; omega
    simp only [List.cons_append, leN, List.length_cons, ih, e]
    rw [Nat.mul_add, Nat.mul_left_comm]
    omega
theorem leN_lt : ∀ (l : List Nat), (∀ b ∈ l, b < 256) → leN l < 2 ^ (8 * l.length)
  | [], _ => by simp [leN]
  | a :: l, h => by
    have ih := leN_lt l (fun b hb => h b (List.mem_cons_of_mem _ hb))
    have ha := h a (List.mem_cons_self ..)
    have e : 2 ^ (8 * (l.length + 1)) = 256 * 2 ^ (8 * l.length) := by rw [Nat.mul_add, Nat.pow_add]; omega
    simp only [leN, List.length_cons, e]
    omega
theorem leN_le8 {x : Nat} (hx : x < 18446744073709551616) : leN (le8 x) = x := by
  simp only [le8, List.range_succ, List.range_zero, List.map_cons, List.map_nil, List.nil_append, List.cons_append, leN]
  omega
theorem or_byte {z x k : Nat} (hz : z < 2 ^ (8 * k)) (hx : x < 256) (hk : k < 8) : bits BinOp.or IntKind.u64 (z : Int) (IntKind.u64.wrap ((x : Int) * 2 ^ (8 * k))) = ((z + x * 2 ^ (8 * k) : Nat) : Int) := by
  have h1 : x * 2 ^ (8 * k) < 18446744073709551616 := by
    have h2 : x * 2 ^ (8 * k) < 256 * 2 ^ (8 * k) := Nat.mul_lt_mul_of_pos_right hx (Nat.two_pow_pos _)
    have h3 : 256 * 2 ^ (8 * k) = 2 ^ (8 * k + 8) := by rw [Nat.pow_add]; omega
    have h4 : 2 ^ (8 * k + 8) ≤ 2 ^ 64 := Nat.pow_le_pow_right (by omega) (by omega)
    omega
  have h5 : z < 18446744073709551616 := by
    have h4 : 2 ^ (8 * k) ≤ 2 ^ 64 := Nat.pow_le_pow_right (by omega) (by omega)
    omega
  have h6 : ((x : Int) * 2 ^ (8 * k)) = ((x * 2 ^ (8 * k) : Nat) : Int) := by push_cast; rfl
  have h7 : IntKind.u64.wrap ((x * 2 ^ (8 * k) : Nat) : Int) = ((x * 2 ^ (8 * k) : Nat) : Int) := by rw [IntKind.wrap_u64]; omega
  rw [h6, h7, u64_or_nat _ _ h5 h1]
  have h8 := Nat.shiftLeft_add_eq_or_of_lt hz x
  rw [Nat.shiftLeft_eq] at h8
  rw [Nat.or_comm, ← h8, Nat.add_comm]
/-- why a word can't be had -/
def woE (n : Nat) (f i : Int) : Int := paE n f (8 * (if i < 0 ∨ 31 < i then 32 else i)) 8
theorem woE_ok {n : Nat} {f i : Int} (h : woE n f i = 0) : 0 ≤ f ∧ f < n ∧ 0 ≤ i ∧ i ≤ 31 := by
  unfold woE at h
  split at h
  · have := paE_ok h; omega
  · have := paE_ok h; omega
theorem set_splice {B L : List Nat} {o k : Nat} (h : o + L.length ≤ B.length) (hk : k < L.length) (b : Nat) (hb : L[k]? = some b) : (splice B o (L.take k)).set (o + k) b = splice B o (L.take (k + 1)) := by
  have h1 : (L.take k).length = k := by rw [List.length_take]; omega
  have h2 : (L.take (k + 1)).length = k + 1 := by rw [List.length_take]; omega
  refine List.ext_getElem? fun j => ?_
  rw [List.getElem?_set, splice_get (by rw [h1]; omega), splice_get (by rw [h2]; omega), length_splice _ _ _ (by rw [h1]; omega), h1, h2]
  by_cases e : o + k = j
  · subst e
    rw [if_pos rfl, if_pos (by omega), if_pos (by omega), Nat.add_sub_cancel_left, List.getElem?_take_of_lt (by omega), hb]
  · rw [if_neg e]
    by_cases c1 : o ≤ j ∧ j < o + k
    · rw [if_pos c1, if_pos (by omega), List.getElem?_take_of_lt (by omega), List.getElem?_take_of_lt (by omega)]
    · rw [if_neg c1, if_neg (by omega)]
theorem FM.byte {w : World} {a gb gm : Nat} {c : Cf} {n : Nat} {B : List Nat} {M : List Mk} (h : FM w a gb gm c n B M) {j : Nat} (hj : j < B.length) :
    w.cell? ⟨gb, j, none⟩ = some (.int .u8 (B[j] : Nat)) ∧ w.frozen? ⟨gb, j, none⟩ = false ∧ ∀ b : Nat, b < 256 → FM (w.setCell ⟨gb, j, none⟩ (.int .u8 b)) a gb gm c n (B.set j b) M := by
  obtain ⟨n1, n2, n3⟩ := h.ne
  obtain ⟨⟨cb, cm, h0, h1, h2⟩, h3, h4, h5, h6, h7⟩ := h
  have hc := RE.cell ucl_len h1.re hj (j := 0) (by omega) rfl
  rw [Nat.mul_one, Nat.add_zero, Nat.zero_add] at hc
  refine ⟨hc, SE.frozen h1 j, fun b hb => ⟨⟨cb, cm, h0.far n1 _, ?_, ?_⟩, h3, h4, fun x hx => (List.mem_or_eq_of_mem_set hx).elim (h5 x) (fun e => e ▸ hb), h6, h7⟩⟩
  · have := SE.set ucl_len h1 hj (j := 0) (by omega) (u := .int .u8 b) (x := b) rfl
    simpa using this
  · exact h2.chg ((Chg.refl [gb] w).setCell (p := ⟨gb, j, none⟩) (.inl (by simp)) _) (fun k hk => by obtain rfl := own_one hk; simpa using fun h => n3 h.symm)
set_option maxRecDepth 20000 in
set_option maxHeartbeats 4000000 in
theorem SetWord_any {w : World} {a gb gm : Nat} {c : Cf} {n : Nat} {B : List Nat} {M : List Mk} (h : FM w a gb gm c n B M) (f i : Int) {x : Nat} (hx : x < 18446744073709551616) :
    Calls Try.prog 19 #[.pointer (some ⟨a, 0, none⟩), .int .i64 f, .int .i64 i, .int .u64 x] w fun e w' => e = .returned (.int .i64 (woE n f i)) ∧ FM w' a gb gm c n (if woE n f i = 0 then splice B (f.toNat * 256 + 8 * i.toNat) (le8 x) else B) M ∧ Chg [gb] w w' := by
  obtain ⟨r, hr⟩ : ∃ r, woE n f i = r := ⟨_, rfl⟩
  rw [hr]
  by_cases h0 : r = 0
  · subst h0
    rw [if_pos rfl]
    obtain ⟨q1, q2, q3, q4⟩ := woE_ok hr
    obtain ⟨f, rfl⟩ : ∃ f' : Nat, f = f' := ⟨f.toNat, by omega⟩
    obtain ⟨i, rfl⟩ : ∃ t : Nat, i = t := ⟨i.toNat, by omega⟩
    rw [Int.toNat_natCast, Int.toNat_natCast]
    have hfn : f < n := by omega
    have hi : i ≤ 31 := by omega
    have HP := hide (part_ok h (f := f) (at_ := 8 * i) (k := 8) hfn (by omega))
    have e1 : paV gb f (8 * i) 8 = .slice (some ⟨gb, f * 256 + 8 * i, none⟩) 8 (256 - 8 * i) := by unfold paV; rw [if_neg (by omega)]
    have e2 : (((8 * i : Nat) : Int)) = 8 * (i : Int) := by push_cast; rfl
    rw [e1, e2] at HP
    have hlb := h.lb
    have hlt := h.lt
    have HF := hide h
    have HLE := hide (show f * 256 + 8 * i + (le8 x).length ≤ B.length by rw [le8_length, hlb]; omega)
    have i0 : (0 : Int) ≤ (i : Int) := by omega
    have i1 : (i : Int) ≤ 31 := by omega
    have d1 : decide ((i : Int) < 0) = false := decide_eq_false (by omega)
    have d2 : decide (31 < (i : Int)) = false := decide_eq_false (by omega)
    have d3 : decide (31 < i) = false := decide_eq_false (by omega)
    have x0 : (0 : Int) ≤ (x : Int) := by omega
    have x1 : (x : Int) < 18446744073709551616 := by omega
    clear hr q1 q2 q3 q4 h e1 e2 hlb
    go_enter Try.func19, Try.ntmps19
    go_wp2_with fail
    refine HP.out.mono ?_
    rintro e w' ⟨rfl, rfl⟩
    go_wp2_with fail
    go_loopw [28] (fun q wr => ∃ k : Nat, k ≤ 8 ∧ q = .int .i64 k ∧ Hid (FM wr a gb gm c n (splice B (f * 256 + 8 * i) ((le8 x).take k)) M) ∧ Chg [gb] w wr) (fun q _ => 8 - (intOf q).toNat)
    case atStart => exact ⟨0, by omega, rfl, hide (by rw [List.take_zero, splice_nil]; exact HF.out), Chg.refl _ _⟩
    case round =>
      obtain ⟨k, hk, rfl, hf, hch⟩ := hrel
      by_cases hkt : k < 8
      · have k1 : (0 : Int) ≤ (k : Int) := by omega
        have k2 : (k : Int) < 8 := by omega
        have hjl : f * 256 + 8 * i + k < (splice B (f * 256 + 8 * i) ((le8 x).take k)).length := by
          have h1 := HLE.out
          rw [le8_length] at h1
          rw [length_splice _ _ _ (by rw [List.length_take, le8_length]; omega)]
          omega
        obtain ⟨b1, b2, b3⟩ := hf.out.byte hjl
        generalize (splice B (f * 256 + 8 * i) ((le8 x).take k))[f * 256 + 8 * i + k] = z at b1
        have hgr : gb < wr.heap.size := hf.out.lt.2.1
        have HB3 := hide (b3 _ (le8_b x (x / 2 ^ (8 * k) % 256) (List.mem_of_getElem? (le8_get x hkt))))
        rw [set_splice HLE.out (by rw [le8_length]; exact hkt) _ (le8_get x hkt)] at HB3
        clear b3 hjl
        have HV := hide (show (x : Int) / 2 ^ (8 * k) % 256 = ((x / 2 ^ (8 * k) % 256 : Nat) : Int) by push_cast; rfl)
        go_wp2_with fail
        go_roundw
        case rel => exact ⟨k + 1, by omega, by go_num, hide (by rw [HV.out]; exact HB3.out), hch.setCell (p := ⟨gb, f * 256 + 8 * i + k, none⟩) (.inl (by simp)) _⟩
        case measure => simp [intOf]; omega
      · obtain rfl : k = 8 := by omega
        have HFF := hide (show FM wr a gb gm c n (splice B (f * 256 + 8 * i) (le8 x)) M by have := hf.out; rwa [List.take_of_length_le (by rw [le8_length]; omega)] at this)
        go_wp2_with fail
        go_ret
        exact ⟨rfl, HFF.out, hch⟩
  · rw [if_neg h0]
    have HF := hide h
    unfold woE at hr
    have HP := hide (part_not h hr h0 (by omega))
    by_cases c1 : i < 0
    · have d1 : decide (i < 0) = true := decide_eq_true c1
      rw [if_pos (.inl c1)] at HP
      clear hr h
      go_enter Try.func19, Try.ntmps19
      go_wp2_with fail
      refine HP.out.mono ?_
      rintro e w' ⟨rfl, rfl⟩
      go_wp2_with fail
      go_loopw [28] (fun q wr => q = .int .i64 0 ∧ wr = w) (fun _ _ => 0)
      case atStart => exact ⟨rfl, rfl⟩
      case round =>
        obtain ⟨rfl, rfl⟩ := hrel
        go_wp2_with fail
        go_ret
        exact ⟨rfl, HF.out, Chg.refl _ _⟩
    · have d1 : decide (i < 0) = false := decide_eq_false c1
      by_cases c2 : 31 < i
      · have d2 : decide (31 < i) = true := decide_eq_true c2
        rw [if_pos (.inr c2)] at HP
        clear hr h
        go_enter Try.func19, Try.ntmps19
        go_wp2_with fail
        refine HP.out.mono ?_
        rintro e w' ⟨rfl, rfl⟩
        go_wp2_with fail
        go_loopw [28] (fun q wr => q = .int .i64 0 ∧ wr = w) (fun _ _ => 0)
        case atStart => exact ⟨rfl, rfl⟩
        case round =>
          obtain ⟨rfl, rfl⟩ := hrel
          go_wp2_with fail
          go_ret
          exact ⟨rfl, HF.out, Chg.refl _ _⟩
      · have d2 : decide (31 < i) = false := decide_eq_false c2
        have i0 : 0 ≤ i := by omega
        have i1 : i ≤ 31 := by omega
        rw [if_neg (by omega)] at HP
        clear hr h
        go_enter Try.func19, Try.ntmps19
        go_wp2_with fail
        refine HP.out.mono ?_
        rintro e w' ⟨rfl, rfl⟩
        go_wp2_with fail
        go_loopw [28] (fun q wr => q = .int .i64 0 ∧ wr = w) (fun _ _ => 0)
        case atStart => exact ⟨rfl, rfl⟩
        case round =>
          obtain ⟨rfl, rfl⟩ := hrel
          go_wp2_with fail
          go_ret
          exact ⟨rfl, HF.out, Chg.refl _ _⟩
/-- the word of a frame -/
def wordN (B : List Nat) (f i : Nat) : Nat := leN ((B.drop (f * 256 + 8 * i)).take 8)
set_option maxRecDepth 20000 in
set_option maxHeartbeats 4000000 in
theorem Word_any {w : World} {a gb gm : Nat} {c : Cf} {n : Nat} {B : List Nat} {M : List Mk} (h : FM w a gb gm c n B M) (f i : Int) :
    Calls Try.prog 20 #[.pointer (some ⟨a, 0, none⟩), .int .i64 f, .int .i64 i] w fun e w' => e = .returned (.tuple #[.int .u64 (if woE n f i = 0 then wordN B f.toNat i.toNat else 0 : Nat), .int .i64 (woE n f i)]) ∧ w = w' := by
  obtain ⟨r, hr⟩ : ∃ r, woE n f i = r := ⟨_, rfl⟩
  rw [hr]
  by_cases h0 : r = 0
  · subst h0
    rw [if_pos rfl]
    obtain ⟨q1, q2, q3, q4⟩ := woE_ok hr
    obtain ⟨f, rfl⟩ : ∃ f' : Nat, f = f' := ⟨f.toNat, by omega⟩
    obtain ⟨i, rfl⟩ : ∃ t : Nat, i = t := ⟨i.toNat, by omega⟩
    rw [Int.toNat_natCast, Int.toNat_natCast]
    have hfn : f < n := by omega
    have hi : i ≤ 31 := by omega
    have HP := hide (part_ok h (f := f) (at_ := 8 * i) (k := 8) hfn (by omega))
    have e1 : paV gb f (8 * i) 8 = .slice (some ⟨gb, f * 256 + 8 * i, none⟩) 8 (256 - 8 * i) := by unfold paV; rw [if_neg (by omega)]
    have e2 : (((8 * i : Nat) : Int)) = 8 * (i : Int) := by push_cast; rfl
    rw [e1, e2] at HP
    have hlb := h.lb
    have hlt := h.lt
    have HF := hide h
    obtain ⟨L, hL⟩ : ∃ L, L = (B.drop (f * 256 + 8 * i)).take 8 := ⟨_, rfl⟩
    have hLl : L.length = 8 := by rw [hL, List.length_take, List.length_drop]; omega
    have hL8 : ∀ b ∈ L, b < 256 := fun b hb => h.b8 b (by rw [hL] at hb; exact List.mem_of_mem_drop (List.mem_of_mem_take hb))
    have hcell : ∀ k, (hk : k < L.length) → w.cell? ⟨gb, f * 256 + 8 * i + k, none⟩ = some (.int .u8 (L[k] : Nat)) := fun k hk => by
      obtain ⟨b1, _, _⟩ := h.byte (j := f * 256 + 8 * i + k) (by omega)
      rw [b1]
      congr 3
      subst hL
      rw [List.getElem_take, List.getElem_drop]
    have HL8 := hide hL8
    have HLC := hide hcell
    have hwn : wordN B f i = leN L := by unfold wordN; rw [hL]
    rw [hwn]
    have HLL := hide hLl
    have i0 : (0 : Int) ≤ (i : Int) := by omega
    have i1 : (i : Int) ≤ 31 := by omega
    have d1 : decide ((i : Int) < 0) = false := decide_eq_false (by omega)
    have d2 : decide (31 < (i : Int)) = false := decide_eq_false (by omega)
    have d3 : decide (31 < i) = false := decide_eq_false (by omega)
    clear hr q1 q2 q3 q4 h e1 e2 hlb hL hLl hL8 hcell hwn
    go_enter Try.func20, Try.ntmps20
    go_wp2_with fail
    refine HP.out.mono ?_
    rintro e w' ⟨rfl, rfl⟩
    go_wp2_with fail
    go_loopw [10, 32] (fun q t wr => wr = w ∧ ∃ k : Nat, k ≤ 8 ∧ q = .int .u64 (leN (L.take k) : Nat) ∧ t = .int .i64 k) (fun _ t _ => 8 - (intOf t).toNat)
    case atStart => exact ⟨rfl, 0, by omega, rfl, rfl⟩
    case round =>
      obtain ⟨rfl, k, hk, rfl, rfl⟩ := hrel
      by_cases hkt : k < 8
      · have hkL : k < L.length := by rw [HLL.out]; exact hkt
        have qk := HLC.out k hkL
        have hTK : L.take (k + 1) = L.take k ++ [L[k]] := List.take_succ_eq_append_getElem hkL
        have hx8 : L[k] < 256 := HL8.out _ (List.getElem_mem hkL)
        have hlt2 := leN_lt (L.take k) (fun b hb => HL8.out b (List.mem_of_mem_take hb))
        have hlk : (L.take k).length = k := by rw [List.length_take, HLL.out]; omega
        rw [hlk] at hlt2
        have HTK := hide (show leN (L.take (k + 1)) = leN (L.take k) + L[k] * 2 ^ (8 * k) by rw [hTK, leN_snoc, hlk])
        generalize L[k] = x at qk hx8 HTK
        generalize leN (L.take k) = z at hlt2 HTK ⊢
        have hgr : gb < wr.heap.size := hlt.2.1
        have k1 : (0 : Int) ≤ (k : Int) := by omega
        have k2 : (k : Int) < 8 := by omega
        have x1 : (0 : Int) ≤ (x : Int) := by omega
        have x2 : (x : Int) < 256 := by omega
        clear hTK hlk hkL
        have HOR := hide (or_byte hlt2 hx8 hkt)
        clear hlt2
        go_wp2_with fail
        go_roundw
        case rel => exact ⟨trivial, k + 1, by omega, by rw [HOR.out, HTK.out], by go_num⟩
        case measure => simp [intOf]; omega
      · obtain rfl : k = 8 := by omega
        have e8 : L.take 8 = L := List.take_of_length_le (by rw [HLL.out]; omega)
        rw [e8]
        clear e8
        go_wp2_with fail
        go_ret2
        exact ⟨rfl, rfl⟩
  · rw [if_neg h0]
    unfold woE at hr
    have HP := hide (part_not h hr h0 (by omega))
    have r1 : (r == 0) = false := by simpa using h0
    have r2 : (r != 0) = true := by simpa using h0
    by_cases c1 : i < 0
    · have d1 : decide (i < 0) = true := decide_eq_true c1
      rw [if_pos (.inl c1)] at HP
      clear hr h
      go_enter Try.func20, Try.ntmps20
      go_wp2_with fail
      refine HP.out.mono ?_
      rintro e w' ⟨rfl, rfl⟩
      go_wp2_with fail
      go_ret2
      exact ⟨rfl, rfl⟩
    · have d1 : decide (i < 0) = false := decide_eq_false c1
      by_cases c2 : 31 < i
      · have d2 : decide (31 < i) = true := decide_eq_true c2
        rw [if_pos (.inr c2)] at HP
        clear hr h
        go_enter Try.func20, Try.ntmps20
        go_wp2_with fail
        refine HP.out.mono ?_
        rintro e w' ⟨rfl, rfl⟩
        go_wp2_with fail
        go_ret2
        exact ⟨rfl, rfl⟩
      · have d2 : decide (31 < i) = false := decide_eq_false c2
        have i0 : 0 ≤ i := by omega
        have i1 : i ≤ 31 := by omega
        rw [if_neg (by omega)] at HP
        clear hr h
        go_enter Try.func20, Try.ntmps20
        go_wp2_with fail
        refine HP.out.mono ?_
        rintro e w' ⟨rfl, rfl⟩
        go_wp2_with fail
        go_ret2
        exact ⟨rfl, rfl⟩
end Go.Proofs.Ytblkfikcfgocgaa
