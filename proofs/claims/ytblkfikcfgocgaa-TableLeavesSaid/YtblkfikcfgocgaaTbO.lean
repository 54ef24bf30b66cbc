/- What a law is handed: an entry. -/
import Derived.Test.YtblkfikcfgocgaaFrP
namespace Go.Proofs.Ytblkfikcfgocgaa
open Go Go.RowKit Go.ChangeShapes Go.WideShapes Go.ChangeAt Go.Deep

theorem cells59 : Try.prog.cellsOf 59 = 2 := by kernel_rfl
section
variable {H : Type} {enc : TypeId × Value → H} {w : World} {base : Nat} {spare : Nat → Bool} {held : Bool}
theorem open_ent {fuel : Nat} {cs : List Value} {x : DataW H × List MemPlace} (hs : cs.length = 2) (h : DataW.trod enc Try.prog w base spare held fuel 59 cs = some x) : ∃ (k : Nat) (n : Int), cs = [.int .u8 k, .int .i64 n] ∧ k < 256 := by
  obtain ⟨n, hp⟩ := trod_parts Try.underlying59 h
  obtain ⟨y0, hy0⟩ := trod_part hp 0 rfl 5 0 1 rfl rfl cells5
  obtain ⟨y1, hy1⟩ := trod_part hp 1 rfl 3 1 1 rfl rfl cells3
  obtain ⟨z0, h0, hz⟩ := one_u8 Try.underlying5 hy0
  obtain ⟨z1, h1⟩ := one_int hy1
  refine ⟨z0, z1, ?_, hz⟩
  refine List.ext_getElem? fun i => ?_
  match i with
  | 0 => exact h0
  | 1 => exact h1
  | i + 2 => rw [List.getElem?_eq_none (by omega)]; rfl
theorem open_entry {cs : Array Value} {d : DataW H} {p : List MemPlace} (hs : cs.size = 2) (h : DataW.Trod enc Try.prog w base spare held 59 (.agg cs) d p) : ∃ (k : Nat) (n : Int), cs = #[.int .u8 k, .int .i64 n] ∧ k < 256 := by
  obtain ⟨fuel, hf⟩ := h
  have hcs : (Value.agg cs).cells.toList = cs.toList := rfl
  rw [hcs] at hf
  obtain ⟨k, n, e, hk⟩ := open_ent (by simp [hs]) hf
  refine ⟨k, n, ?_, hk⟩
  cases cs
  simp only at e
  rw [e]
end
end Go.Proofs.Ytblkfikcfgocgaa
