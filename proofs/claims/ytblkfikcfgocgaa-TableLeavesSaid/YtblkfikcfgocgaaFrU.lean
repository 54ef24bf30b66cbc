/- What a law is handed: one call. -/
import Derived.Test.YtblkfikcfgocgaaFrP
namespace Go.Proofs.Ytblkfikcfgocgaa
open Go Go.RowKit Go.ChangeShapes Go.WideShapes Go.ChangeAt Go.Deep

section
variable {H : Type} {enc : TypeId × Value → H} {w : World} {base : Nat} {spare : Nat → Bool} {held : Bool}
theorem open_op1 {cs : Array Value} {d : DataW H} {p : List MemPlace} (hs : cs.size = 11) (h : DataW.Trod enc Try.prog w base spare held 46 (.agg cs) d p) :
    ∃ (k f t n : Int) (A : Option Addr) (m cap ro : Nat) (m1 m2 m3 m4 x : Int), cs = #[.int .i64 k, .int .i64 f, .int .i64 t, .int .i64 n, .slice A m cap, .int .u8 ro, .int .i64 m1, .int .i64 m2, .int .i64 m3, .int .i64 m4, .int .u64 x] ∧ (m : Int) ≤ 9223372036854775807 := by
  obtain ⟨fuel, hf⟩ := h
  have hcs : (Value.agg cs).cells.toList = cs.toList := rfl
  rw [hcs] at hf
  obtain ⟨o, ho, hr⟩ := open_op (by simp [hs]) hf
  obtain ⟨n', hp⟩ := trod_parts Try.underlying46 hf
  obtain ⟨y4, hy4⟩ := trod_part hp 4 rfl 27 4 1 rfl rfl cells27
  have hb : ∃ A m cap, o.b = .slice A m cap ∧ (m : Int) ≤ 9223372036854775807 := by
    have h4 : (cs.toList.drop 4).take 1 = [o.b] := by rw [ho]; rfl
    rw [h4] at hy4
    rcases open_ints Try.underlying27 Try.underlying5 cells5 hy4 with ⟨hc, _⟩ | ⟨a, len, cap, zs, hc, _, hlc, hcm, _⟩
    · injection hc with e
      exact ⟨none, 0, 0, e, by simp⟩
    · injection hc with e
      exact ⟨some a, len, cap, e, by unfold Go.maxLen at hcm; omega⟩
  obtain ⟨A, m, cap, hb, hm⟩ := hb
  refine ⟨o.kind, o.f, o.at_, o.n, A, m, cap, o.m.role, o.m.ord, o.m.owr, o.m.page, o.m.idx, o.w, ?_, hm⟩
  rw [← hb]
  cases cs
  simp only at ho
  rw [ho]
  rfl
end
end Go.Proofs.Ytblkfikcfgocgaa
