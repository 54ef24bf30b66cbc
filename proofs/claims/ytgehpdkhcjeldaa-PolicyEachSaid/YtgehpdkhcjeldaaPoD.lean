/- Policies: what nodes are picked by; IndexFunc. -/
import Derived.Test.YtgehpdkhcjeldaaPoC
namespace Go.Proofs.Ytgehpdkhcjeldaa
open Go Go.RowKit

/-- the policy's box -/
abbrev PB (w : World) (b kind m : Nat) : Prop := Blk w b 45 #[.int .u8 kind, .int .u8 m]
/-- is the node in the mask? -/
theorem in_any {w : World} {b kind m : Nat} (hp : PB w b kind m) (hm : m < 256) (k : Int) : Calls Try.prog 38 #[.int .i64 k, .pointer (some ⟨b, 0, none⟩)] w fun e w' => e = .returned (.bool (hasZ m k)) ∧ w = w' := by
  have p1 := hp.cell 1
  simp at p1
  have HH := hide (has_any hm k w)
  generalize hasZ m k = r at HH ⊢
  clear hp
  go_enter Try.func38, Try.ntmps38
  go_wp2_with (go_at_call 39; refine HH.out.mono ?_; rintro e w' ⟨rfl, rfl⟩)
  go_ret
  exact ⟨rfl, rfl⟩
/-- is it not? -/
theorem out_any {w : World} {b bf kind m : Nat} (hp : PB w b kind m) (hf : Blk w bf 42 #[.func (.func 38) #[] #[.pointer (some ⟨b, 0, none⟩)]]) (hm : m < 256) (k : Int) : Calls Try.prog 42 #[.int .i64 k, .pointer (some ⟨bf, 0, none⟩)] w fun e w' => e = .returned (.bool (!hasZ m k)) ∧ w = w' := by
  have p1 := hf.cell 0
  simp at p1
  have HH := hide (in_any hp hm k)
  generalize hasZ m k = r at HH ⊢
  clear hp hf
  go_enter Try.func42, Try.ntmps42
  go_wp2_with fail
  refine HH.out.mono ?_
  rintro e w' ⟨rfl, rfl⟩
  go_wp2_with fail
  go_ret
  exact ⟨rfl, rfl⟩
end Go.Proofs.Ytgehpdkhcjeldaa
