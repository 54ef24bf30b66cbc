/- The document's areas: an array of rights: what lies there, and the small functions. -/
import Derived.Test.YtmgjknlpcnakiaaArK
import Derived.Laws.Rows
import Derived.Laws.Tables
namespace Go.Proofs.Ytmgjknlpcnakiaa
open Go Go.RowKit

/-- the array's cells -/
@[irreducible] def pg (f : Int → Int) : Array Value := Array.ofFn (n := 1024) fun i => .int .u8 (f i)
theorem pg_size (f : Int → Int) : (pg f).size = 1024 := by unfold pg; simp
theorem pg_get (f : Int → Int) {i : Nat} (h : i < 1024) : (pg f)[i]? = some (.int .u8 (f i)) := by unfold pg; simp [h]
theorem pg_ext {f g : Int → Int} (h : ∀ q, 0 ≤ q → q < 1024 → f q = g q) : pg f = pg g := by
  unfold pg
  congr 1
  funext i
  rw [h i (by omega) (by omega)]
theorem pg_set (f : Int → Int) (i : Nat) (v : Int) : (pg f).setIfInBounds i (.int .u8 v) = pg (fun q => if q = i then v else f q) := by
  apply Array.ext_getElem?
  intro j
  rw [Array.getElem?_setIfInBounds]
  by_cases hj : j < 1024
  · rw [pg_get _ hj, pg_get _ hj]
    by_cases e : i = j
    · subst e; simp [pg_size, hj]
    · rw [if_neg e, if_neg (by omega)]
  · have h1 : (pg f)[j]? = none := Array.getElem?_eq_none (by rw [pg_size]; omega)
    have h2 : (pg (fun q => if q = i then v else f q))[j]? = none := Array.getElem?_eq_none (by rw [pg_size]; omega)
    rw [h1, h2, pg_size]
    split
    · rename_i e; rw [if_neg (by omega)]
    · rfl
theorem pg_one (f : Int → Int) : (pg f).all (·.oneCell') = true := by
  unfold pg
  rw [Array.all_eq_true]
  intro i hi
  simp [Value.oneCell']
/-- the document's areas lie at b -/
abbrev PA (w : World) (b : Nat) (f : Int → Int) : Prop := Blk w b 48 (pg f)
theorem PA.get {w : World} {b : Nat} {f : Int → Int} (h : PA w b f) {i : Nat} (hi : i < 1024) : w.cell? ⟨b, i, none⟩ = some (.int .u8 (f i)) := (h.cell i).trans (pg_get f hi)
theorem info48 : (Try.prog.info? 48).map (·.size) = some 1024 := by kernel_rfl
theorem info48' {f : Int → Int} : (Try.prog.info? 48).map (·.size) = some (pg f).size := by rw [pg_size]; exact info48

theorem May_any (page count : Int) (w : World) : Calls Try.prog 34 #[.int .i64 page, .int .i64 count] w fun e w' => e = .returned (.bool (mayB page count)) ∧ w = w' := by
  obtain ⟨b, hb⟩ : ∃ b, mayB page count = b := ⟨_, rfl⟩
  have HB := hide hb
  rw [hb]
  clear hb
  by_cases h1 : 0 ≤ page
  · by_cases h5 : page < 1024
    · by_cases h2 : 1 ≤ count
      · by_cases h3 : count ≤ 1024
        · by_cases h4 : page + count ≤ 1024
          · obtain rfl : b = true := by rw [← HB.out]; simp [mayB]; omega
            go_enter Try.func34, Try.ntmps34
            go_wp2_with fail
            go_ret
            exact ⟨rfl, rfl⟩
          · obtain rfl : b = false := by rw [← HB.out]; simp [mayB]; omega
            go_enter Try.func34, Try.ntmps34
            go_wp2_with fail
            go_ret
            exact ⟨rfl, rfl⟩
        · obtain rfl : b = false := by rw [← HB.out]; simp [mayB]; omega
          go_enter Try.func34, Try.ntmps34
          go_wp2_with fail
          go_ret
          exact ⟨rfl, rfl⟩
      · obtain rfl : b = false := by rw [← HB.out]; simp [mayB]; omega
        go_enter Try.func34, Try.ntmps34
        go_wp2_with fail
        go_ret
        exact ⟨rfl, rfl⟩
    · obtain rfl : b = false := by rw [← HB.out]; simp [mayB]; omega
      go_enter Try.func34, Try.ntmps34
      go_wp2_with fail
      go_ret
      exact ⟨rfl, rfl⟩
  · obtain rfl : b = false := by rw [← HB.out]; simp [mayB]; omega
    go_enter Try.func34, Try.ntmps34
    go_wp2_with fail
    go_ret
    exact ⟨rfl, rfl⟩

/-- mapped -/
theorem mapped_any {w : World} {b : Nat} {f : Int → Int} (h : PA w b f) (page count : Int) (hm : mayB page count = true) :
    Calls Try.prog 35 #[.pointer (some ⟨b, 0, none⟩), .int .i64 page, .int .i64 count] w fun e w' => e = .returned (.int .i64 (cntP (fun q => decide (f q ≠ 0)) page count.toNat : Nat)) ∧ w = w' := by
  obtain ⟨m1, m2, m3, m4⟩ := mayB_iff.1 hm
  obtain ⟨p, rfl⟩ : ∃ p : Nat, page = p := ⟨page.toNat, by omega⟩
  obtain ⟨c, rfl⟩ : ∃ c : Nat, count = c := ⟨count.toNat, by omega⟩
  have H := hide h
  have hlt := h.lt
  clear h hm
  go_enter Try.func35, Try.ntmps35
  go_wp2_with fail
  go_loopw [7, 8] (fun i n wr => wr = w ∧ ∃ k : Nat, k ≤ c ∧ n = .int .i64 ((p + k : Nat) : Int) ∧ ∃ t : Nat, t ≤ k ∧ i = .int .i64 t ∧ Hid (t = cntP (fun q => decide (f q ≠ 0)) p k)) (fun _ n _ => p + c - (intOf n).toNat)
  case atStart => exact ⟨rfl, 0, by omega, by simp, 0, by omega, rfl, hide rfl⟩
  case round =>
    obtain ⟨rfl, k, hk, rfl, t, ht, rfl, Ht⟩ := hrel
    have hk0 : (k : Int) ≤ 1024 := by omega
    have ht0 : (t : Int) ≤ 1024 := by omega
    by_cases hkc : k < c
    · have hg := H.out.get (i := p + k) (by omega)
      obtain ⟨x, hx⟩ : ∃ x, x = f ((p + k : Nat) : Int) := ⟨_, rfl⟩
      rw [← hx] at hg
      have Hx := hide hx
      clear hx
      by_cases h0 : x = 0
      · subst h0
        go_wp2_with fail
        go_roundw
        case rel => exact ⟨trivial, k + 1, by omega, by go_num, t, by omega, rfl, hide (by show t = cntP _ p k + (if decide (f (p + k) ≠ 0) = true then 1 else 0); rw [← Ht.out, ← Int.natCast_add, ← Hx.out]; simp)⟩
        case measure => simp [intOf]; omega
      · have h1 : (x == 0) = false := by simpa using h0
        have h2 : (x != 0) = true := by simpa using h0
        go_wp2_with fail
        go_roundw
        case rel => exact ⟨trivial, k + 1, by omega, by go_num, t + 1, by omega, by go_num, hide (by show t + 1 = cntP _ p k + (if decide (f (p + k) ≠ 0) = true then 1 else 0); rw [← Ht.out, ← Int.natCast_add, ← Hx.out]; simp [h0])⟩
        case measure => simp [intOf]; omega
    · obtain rfl : k = c := by omega
      go_wp2_with fail
      go_ret
      exact ⟨by rw [Ht.out]; simp, rfl⟩
/-- Rights, the document's -/
theorem Rights_any {w : World} {b : Nat} {f : Int → Int} (h : PA w b f) (h0 : ∀ q, q < 0 ∨ 1024 ≤ q → f q = 0) (q : Int) :
    Calls Try.prog 23 #[.pointer (some ⟨b, 0, none⟩), .int .i64 q] w fun e w' => e = .returned (.tuple #[.int .u8 (f q), .bool (decide (f q ≠ 0))]) ∧ w = w' := by
  obtain ⟨x, hx⟩ : ∃ x, f q = x := ⟨_, rfl⟩
  have hlt := h.lt
  have Hx := hide hx
  rw [hx]
  by_cases h1 : 0 ≤ q
  · by_cases h2 : q < 1024
    · obtain ⟨k, rfl⟩ : ∃ k : Nat, q = k := ⟨q.toNat, by omega⟩
      have hg := h.get (i := k) (by omega)
      rw [hx] at hg
      clear h h0 hx
      have d1 : decide ((k : Int) < 0) = false := decide_eq_false (by omega)
      have d2 : decide (1024 ≤ (k : Int)) = false := decide_eq_false (by omega)
      by_cases h3 : x = 0
      · subst h3
        go_enter Try.func23, Try.ntmps23
        go_wp2_with fail
        go_ret2
        exact ⟨rfl, rfl⟩
      · have h4 : (x == 0) = false := by simpa using h3
        have h5 : decide (x ≠ 0) = true := by simpa using h3
        rw [h5]
        go_enter Try.func23, Try.ntmps23
        go_wp2_with fail
        go_ret2
        exact ⟨rfl, rfl⟩
    · obtain rfl : x = 0 := by rw [← hx, h0 q (.inr (by omega))]
      clear h h0 hx
      have d1 : decide (q < 0) = false := decide_eq_false (by omega)
      have d2 : decide (1024 ≤ q) = true := decide_eq_true (by omega)
      go_enter Try.func23, Try.ntmps23
      go_wp2_with fail
      go_ret2
      exact ⟨rfl, rfl⟩
  · obtain rfl : x = 0 := by rw [← hx, h0 q (.inl (by omega))]
    clear h h0 hx
    have d1 : decide (q < 0) = true := decide_eq_true (by omega)
    go_enter Try.func23, Try.ntmps23
    go_wp2_with fail
    go_ret2
    exact ⟨rfl, rfl⟩
end Go.Proofs.Ytmgjknlpcnakiaa
