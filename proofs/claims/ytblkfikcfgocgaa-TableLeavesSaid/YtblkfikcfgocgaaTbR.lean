/- The rule of a range over Leaves that counts what is told. -/
import Derived.Test.YtblkfikcfgocgaaTbQ
namespace Go.Proofs.Ytblkfikcfgocgaa
open Go Go.RowKit Go.Shelf

theorem nx_at {wt : Nat → Nat} {i : Nat} (h : wt i ≠ 0) : nx wt (i + 1) = i + 1 := by show (if wt i = 0 then nx wt i else i + 1) = _; rw [if_neg h]
theorem nx_quiet {wt : Nat → Nat} {i : Nat} (h : wt i = 0) : nx wt (i + 1) = nx wt i := by show (if wt i = 0 then nx wt i else i + 1) = _; rw [if_pos h]
theorem wp_told {g : Operand} {p0 p1 q0 q1 : Nat} {assign body : Code} {Q : Exit → Act → World → Prop} {a : Act} {w : World} {b1 b2 pa gb gm bw bn : Nat} {L : List Nat} {M : List Mk} {c : Cf}
    (h3 : ∀ i, i < 32 → wtL L i ≤ 3)
    (hg : a.eval g = .func (.func 49) #[] #[.pointer (some ⟨b1, 0, none⟩), .pointer (some ⟨b2, 0, none⟩)])
    (ht : TM w pa gb gm c 4 (VR (wtL L)) M) (h1 : Blk w b1 28 #[.pointer (some ⟨pa, 0, none⟩)]) (h2 : Blk w b2 3 #[.int .i64 0]) (hw : WI w bw L) (hn : Blk w bn 3 #[.int .i64 ((nx (wtL L) 0 : Nat) : Int)])
    (hne : pa ≠ bn ∧ gb ≠ bn ∧ gm ≠ bn ∧ b2 ≠ bn)
    (hassign : ∀ (j : Nat) (i x : Int) (W : World) (K : Act → World → Prop), K { tmps := (((a.tmps.setIfInBounds p0 (.int .i64 i)).setIfInBounds p1 (.int .i64 x)).setIfInBounds q0 (.int .i64 i)).setIfInBounds q1 (.int .i64 x), defers := [] } W →
      assign.wpIn (Fence.wide.inRound j) 4 Try.prog (Exit.then K (fun _ _ _ => False)) { tmps := (a.tmps.setIfInBounds p0 (.int .i64 i)).setIfInBounds p1 (.int .i64 x), defers := [] } W)
    (hbody : ∀ (j i : Nat) (W : World) (Q' : Exit → Act → World → Prop), ¬ LetsOut Q' → i < 32 → wtL L i ≠ 0 → WI W bw L → Blk W bn 3 #[.int .i64 ((nx (wtL L) i : Nat) : Int)] →
      (∀ a' W', Chg [bn] W W' → Blk W' bn 3 #[.int .i64 ((i : Int) + 1)] → Q' .normal a' W') →
      body.wpIn (Fence.wide.inRound j) 4 Try.prog Q' { tmps := (((a.tmps.setIfInBounds p0 (.int .i64 (i : Int))).setIfInBounds p1 (.int .i64 (wtL L i : Int))).setIfInBounds q0 (.int .i64 (i : Int))).setIfInBounds q1 (.int .i64 (wtL L i : Int)), defers := [] } W)
    (hdone : ∀ D W, w.heap.size ≤ D → W.heap[D]? = some (.deferred (some [])) → Blk W bn 3 #[.int .i64 ((nx (wtL L) 32 : Nat) : Int)] → Chg [bn] w W → Q .normal { a with defers := mark D :: a.defers } W) :
    (Code.rangeFunc g #[p0, p1] assign body).wp Try.prog Q a w := by
  have n1 := h1.ne_ hn (by decide)
  have n3 : bw ≠ bn := Blk.ne_ hw hn (by decide)
  obtain ⟨m1, m2, m3, m4⟩ := hne
  obtain ⟨l1, l2, l3⟩ := ht.lts
  have hbl := hn.lt
  have hb1l := h1.lt
  have hb2l := h2.lt
  have hbwl := Blk.lt hw
  let I := fun (N : List Nat) (i : Nat) (W : World) => Chg [bn] w W ∧ (∀ b ∈ N, w.heap.size ≤ b ∧ b < W.heap.size) ∧ Blk W bn 3 #[.int .i64 ((nx (wtL L) i : Nat) : Int)]
  have hIst : ∀ N i W W', I N i W → Chg N W W' → I N i W' := by
    rintro N i W W' ⟨hc, hN, hb⟩ hch
    exact ⟨hc.trans hch (fun b hb => .inr (hN b hb).1), fun b hb => ⟨(hN b hb).1, Nat.lt_of_lt_of_le (hN b hb).2 hch.size⟩, hb.chg hch (fun h => by have := (hN bn h).1; omega)⟩
  have hWI : ∀ N i W, I N i W → WI W bw L := fun N i W h => WI.chg hw h.1 (by simpa using n3)
  refine wp_leaves (pa := pa) (gb := gb) (gm := gm) (M := M) (c := c) (fun i hi => VR_leaf h3 hi) hg I
    (fun N i a' W => a' = { tmps := (((a.tmps.setIfInBounds p0 (.int .i64 (i : Int))).setIfInBounds p1 (.int .i64 (wtL L i : Int))).setIfInBounds q0 (.int .i64 (i : Int))).setIfInBounds q1 (.int .i64 (wtL L i : Int)), defers := [] } ∧ I N i W)
    ?_ ?_ hIst ?_ ?_ ?_ ?_ ?_
  · intro N i W hi
    exact ⟨ht.chg hi.1 (by simpa using m1) (by simpa using m2) (by simpa using m3), h1.chg hi.1 (by simpa using n1), h2.chg hi.1 (by simpa using m4)⟩
  · intro N W hN hc
    exact ⟨hc.up _, hN, hn.chg hc (by simp)⟩
  · rintro N i a' W W' ⟨rfl, hi⟩ hc
    exact ⟨rfl, hIst _ _ _ _ hi hc⟩
  · rintro N i W hi hz ⟨i1, i2, i3⟩
    exact ⟨i1, i2, by rw [nx_quiet hz]; exact i3⟩
  · rintro j N i W K hi hz hI hK
    exact hassign j i (wtL L i : Int) W K (hK _ _ ⟨rfl, hI⟩ (Keep.refl _ _))
  · rintro j N i a' W hi hz ⟨rfl, hI⟩
    obtain ⟨hc, hN, hb⟩ := hI
    refine hbody j i W _ (fun ⟨_, _, h⟩ => h) hi hz (hWI N i W ⟨hc, hN, hb⟩) hb fun a'' W' hc' hb' => ?_
    refine ⟨keep_chg hc' (fun k hk => ⟨(hN k hk).2, fun h => ?_⟩), hc.and_ hc', fun x hx => ⟨(hN x hx).1, Nat.lt_of_lt_of_le (hN x hx).2 hc'.size⟩, ?_⟩
    · have := List.mem_singleton.1 h; have := (hN k hk).1; omega
    · rw [nx_at hz]; simpa using hb'
  · rintro N D W hD hDw ⟨hc, hN, hb⟩ hdf
    exact hdone D W hDw hdf hb hc
end Go.Proofs.Ytblkfikcfgocgaa
