/- Policies: IndexFunc, DeleteFunc, alike. -/
import Derived.Test.YtgehpdkhcjeldaaPoD
namespace Go.Proofs.Ytgehpdkhcjeldaa
open Go Go.RowKit

/-- the first one that is picked -/
def firstP (p : Nat → Bool) (l : List Nat) (r : Int) : Prop := (r = -1 ∧ ∀ x ∈ l, p x = false) ∨ ∃ i : Nat, r = i ∧ ∃ h : i < l.length, p l[i] = true ∧ ∀ x ∈ l.take i, p x = false
set_option maxHeartbeats 1000000 in
theorem index38_any {w : World} {A : Option Addr} {n cap : Nat} {l : List Nat} {bx : Nat} {p : Nat → Bool} (hs : SI w (.slice A n cap) l) (hlen : l.length ≤ 1000)
    (hcall : ∀ k : Nat, Calls Try.prog 38 #[.int .i64 k, .pointer (some ⟨bx, 0, none⟩)] w fun e w' => e = .returned (.bool (p k)) ∧ w = w') :
    Calls Try.prog 46 #[.slice A n cap, .func (.func 38) #[] #[.pointer (some ⟨bx, 0, none⟩)]] w fun e w' => (∃ r : Int, e = .returned (.int .i64 r) ∧ firstP p l r) ∧ w = w' := by
  have HS := hide hs
  have hn : n = l.length := by
    obtain ⟨A', c', e'⟩ := hs.form
    injection e'
  subst hn
  have HCALL := hide hcall
  clear hs hcall
  have hl2 : (l.length : Int) ≤ 1000 := by omega
  go_enter Try.func46, Try.ntmps46
  go_wp2_with fail
  go_loopw [8] (fun i wr => wr = w ∧ ∃ k : Nat, k ≤ l.length ∧ i = .int .i64 k ∧ Hid (∀ x ∈ l.take k, p x = false)) (fun i _ => l.length - (intOf i).toNat)
  case atStart => exact ⟨rfl, 0, by omega, rfl, hide (by simp)⟩
  case round =>
    obtain ⟨rfl, k, hk, rfl, HK⟩ := hrel
    by_cases hkt : k < l.length
    · obtain ⟨g, off, rfl⟩ := SE.addr HS.out (by omega)
      have qk := SI.cell (SE.re HS.out) hkt
      have hgl : g < wr.heap.size := HS.out.own_lt g (by simp [own, Value.ownBlock])
      have k1 : (0 : Int) ≤ (k : Int) := by omega
      have k2 : (k : Int) < (l.length : Int) := by omega
      have htk : l.take (k + 1) = l.take k ++ [l[k]] := List.take_succ_eq_append_getElem hkt
      obtain ⟨y, hy⟩ : ∃ y, l[k] = y := ⟨_, rfl⟩
      rw [hy] at qk htk
      have HY := hide hy
      have HT := hide htk
      clear hy htk
      go_wp2_with fail
      refine (HCALL.out y).mono ?_
      rintro e W2 ⟨rfl, rfl⟩
      cases hp : p y with
      | true =>
        have HP := hide hp
        clear hp
        go_wp2_with fail
        go_ret
        exact ⟨⟨k, rfl, .inr ⟨k, rfl, hkt, by rw [HY.out]; exact HP.out, HK.out⟩⟩, rfl⟩
      | false =>
        have HP := hide hp
        clear hp
        go_wp2_with fail
        go_roundw
        case rel => exact ⟨trivial, k + 1, by omega, by go_num, hide (fun x hx => by
          rw [HT.out] at hx
          rcases List.mem_append.1 hx with hx | hx
          · exact HK.out x hx
          · obtain rfl := List.mem_singleton.1 hx; exact HP.out)⟩
        case measure => simp [intOf]; omega
    · obtain rfl : k = l.length := by omega
      have HF := hide (show ∀ x ∈ l, p x = false by have := HK.out; rwa [List.take_length] at this)
      go_wp2_with fail
      go_ret
      exact ⟨⟨-1, rfl, .inl ⟨rfl, HF.out⟩⟩, rfl⟩
set_option maxHeartbeats 1000000 in
theorem index42_any {w : World} {A : Option Addr} {n cap : Nat} {l : List Nat} {bx : Nat} {p : Nat → Bool} (hs : SI w (.slice A n cap) l) (hlen : l.length ≤ 1000)
    (hcall : ∀ k : Nat, Calls Try.prog 42 #[.int .i64 k, .pointer (some ⟨bx, 0, none⟩)] w fun e w' => e = .returned (.bool (p k)) ∧ w = w') :
    Calls Try.prog 46 #[.slice A n cap, .func (.func 42) #[] #[.pointer (some ⟨bx, 0, none⟩)]] w fun e w' => (∃ r : Int, e = .returned (.int .i64 r) ∧ firstP p l r) ∧ w = w' := by
  have HS := hide hs
  have hn : n = l.length := by
    obtain ⟨A', c', e'⟩ := hs.form
    injection e'
  subst hn
  have HCALL := hide hcall
  clear hs hcall
  have hl2 : (l.length : Int) ≤ 1000 := by omega
  go_enter Try.func46, Try.ntmps46
  go_wp2_with fail
  go_loopw [8] (fun i wr => wr = w ∧ ∃ k : Nat, k ≤ l.length ∧ i = .int .i64 k ∧ Hid (∀ x ∈ l.take k, p x = false)) (fun i _ => l.length - (intOf i).toNat)
  case atStart => exact ⟨rfl, 0, by omega, rfl, hide (by simp)⟩
  case round =>
    obtain ⟨rfl, k, hk, rfl, HK⟩ := hrel
    by_cases hkt : k < l.length
    · obtain ⟨g, off, rfl⟩ := SE.addr HS.out (by omega)
      have qk := SI.cell (SE.re HS.out) hkt
      have hgl : g < wr.heap.size := HS.out.own_lt g (by simp [own, Value.ownBlock])
      have k1 : (0 : Int) ≤ (k : Int) := by omega
      have k2 : (k : Int) < (l.length : Int) := by omega
      have htk : l.take (k + 1) = l.take k ++ [l[k]] := List.take_succ_eq_append_getElem hkt
      obtain ⟨y, hy⟩ : ∃ y, l[k] = y := ⟨_, rfl⟩
      rw [hy] at qk htk
      have HY := hide hy
      have HT := hide htk
      clear hy htk
      go_wp2_with fail
      refine (HCALL.out y).mono ?_
      rintro e W2 ⟨rfl, rfl⟩
      cases hp : p y with
      | true =>
        have HP := hide hp
        clear hp
        go_wp2_with fail
        go_ret
        exact ⟨⟨k, rfl, .inr ⟨k, rfl, hkt, by rw [HY.out]; exact HP.out, HK.out⟩⟩, rfl⟩
      | false =>
        have HP := hide hp
        clear hp
        go_wp2_with fail
        go_roundw
        case rel => exact ⟨trivial, k + 1, by omega, by go_num, hide (fun x hx => by
          rw [HT.out] at hx
          rcases List.mem_append.1 hx with hx | hx
          · exact HK.out x hx
          · obtain rfl := List.mem_singleton.1 hx; exact HP.out)⟩
        case measure => simp [intOf]; omega
    · obtain rfl : k = l.length := by omega
      have HF := hide (show ∀ x ∈ l, p x = false by have := HK.out; rwa [List.take_length] at this)
      go_wp2_with fail
      go_ret
      exact ⟨⟨-1, rfl, .inl ⟨rfl, HF.out⟩⟩, rfl⟩
end Go.Proofs.Ytgehpdkhcjeldaa
