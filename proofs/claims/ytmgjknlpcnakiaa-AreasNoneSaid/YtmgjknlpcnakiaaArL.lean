import Derived.Test.YtmgjknlpcnakiaaArK
import Derived.RangeFuncNested
import Derived.RangeFuncBound
import Derived.RangeFuncCalls
import Derived.RangeFuncLeaves
import Derived.Shelf.Abstract
import Derived.Shelf.RegionOpen
import Derived.OwnWalkIn
import Derived.TacticsInMore
import Derived.LoopNIn
import Derived.LoopIn
namespace Go.Proofs.Ytmgjknlpcnakiaa
open Go Go.RowKit Go.Shelf

attribute [local go_sem] Oper.semAt_some

def rv (r : Rn) : Value := .agg #[.int .i64 r.p, .int .i64 r.c, .int .u8 r.g]
set_option maxRecDepth 100000 in
set_option maxHeartbeats 2000000 in
/-- the iterator of Runs, whatever the loop's body keeps -/
theorem iter_in {j bx d : Nat} {l : List Rn} {W : World} {F : List Nat} (hbx : Blk W bx 23 #[.pointer (some ⟨d, 0, none⟩)]) (hm : AMem W d l F) (hlen : l.length ≤ 1000) (J : List Nat → Nat → World → Prop) (Jx : World → Prop)
    (h0 : ∀ N W1, (∀ b ∈ N, W.heap.size ≤ b ∧ b < W1.heap.size) → Chg [] W W1 → J N 0 W1) (hst : ∀ N k W1 W2, J N k W1 → Chg [] W1 W2 → J N k W2)
    (hY : ∀ N k W1 (hk : k < l.length), J N k W1 → YieldAt Fence.wide 4 Try.prog j #[rv l[k]] W1 fun e W2 => (e = .returned (.bool true) ∧ J N (k + 1) W2 ∧ Keep N W1 W2) ∨ (e = .returned (.bool false) ∧ Jx W2)) :
    CallsIn Fence.wide 5 Try.prog 26 #[.func (.yield j) #[] #[], .pointer (some ⟨bx, 0, none⟩)] W fun e W' => (∃ v, e = .returned v) ∧ ((∃ N, J N l.length W') ∨ Jx W') := by
  obtain ⟨v, hb, hs, hF, hlt⟩ := hm
  obtain ⟨A, c0, rfl⟩ := hs.form
  have b0 := hb.cell 0
  have x0 := hbx.cell 0
  simp at b0 x0
  have HC := hide (clone_any hs.re (by omega))
  have H0 := hide h0
  have HY := hide hY
  have HS := hide hst
  clear hs hb hF hlt hbx h0 hY hst
  refine callsIn_of_wp Try.func26 rfl trivial ?_ rfl
  simp only [Try.ntmps26, List.size_toArray, List.length_cons, List.length_nil, Nat.reduceAdd, Nat.reduceSub, Array.replicate_succ, Array.replicate_zero, List.push_toArray, List.append_toArray, List.nil_append, List.cons_append]
  gi_wp2_with (refine ⟨trivial, ?_⟩; gi_at_call 27; refine (callsIn_wide.2 HC.out).mono ?_; rintro e W1 ⟨A1, n1, c1, rfl, hs1, hn1, hc1⟩)
  obtain ⟨A', c', e'⟩ := hs1.form
  have en : n1 = l.length := by injection e'
  clear e' A' c'
  subst en
  have hJ1 := H0.out (own (.slice A1 l.length c1)) W1 (fun b hb => ⟨hn1 b hb, hs1.own_lt b hb⟩) hc1
  clear hn1 hc1 HC H0
  gi_loopw [13] (fun i wr => ∃ k : Nat, k ≤ l.length ∧ i = .int .i64 k ∧ SR wr (.slice A1 l.length c1) l ∧ J (own (.slice A1 l.length c1)) k wr) (fun i _ => l.length - (intOf i).toNat)
  case atStart => exact ⟨0, Nat.zero_le _, rfl, hs1, hJ1⟩
  case round =>
    obtain ⟨k, hk, rfl, hsr, hJk⟩ := hrel
    clear hs1 hJ1
    by_cases hlt : k < l.length
    · obtain ⟨g0, off, rfl⟩ := SE.addr hsr (by omega)
      obtain ⟨q0, q1, q2⟩ := RR.cells hsr.re hlt
      have hgl : g0 < wr.heap.size := hsr.own_lt g0 (by simp [own, Value.ownBlock])
      have hY1 := fun W1 hJ => HY.out (own (.slice (some ⟨g0, off, none⟩) l.length c1)) k W1 hlt hJ
      obtain ⟨p, hp⟩ : ∃ p, l[k].p = p := ⟨_, rfl⟩
      obtain ⟨c, hc⟩ : ∃ c, l[k].c = c := ⟨_, rfl⟩
      obtain ⟨g, hg⟩ : ∃ g, l[k].g = g := ⟨_, rfl⟩
      unfold rv at hY1
      rw [hp, hc, hg] at hY1
      rw [hp] at q0
      rw [hc] at q1
      rw [hg] at q2
      clear hp hc hg
      have hsr1 := hsr.stay ((Chg.refl [] wr).alloc (.cells #[.int .i64 p, .int .i64 c, .int .u8 g] 30))
      obtain ⟨fn, tmps, assign, body, hy, hR⟩ := hY1 (wr.alloc (.cells #[.int .i64 p, .int .i64 c, .int .u8 g] 30)) (HS.out _ _ _ _ hJk ((Chg.refl [] wr).alloc _))
      clear hY1
      gi_wp2
      refine hR.mono ?_
      rintro e W3 (⟨rfl, hJ3, hk3⟩ | ⟨rfl, hJx3⟩)
      · have hsr3 : SR W3 (.slice (some ⟨g0, off, none⟩) l.length c1) l := hk3.sl hsr1 (fun k hk => own_mem.2 hk)
        clear hsr1 hsr hk3 hJk
        gi_wp2
        go_roundw
        case rel => exact ⟨k + 1, by omega, by go_num, hsr3, hJ3⟩
        case measure => simp [intOf]; omega
      · gi_wp2
        refine bodyPost_ret (results_none rfl _ _ _) rfl ?_
        exact ⟨⟨_, rfl⟩, .inr hJx3⟩
    · obtain rfl : k = l.length := by omega
      gi_wp2
      go_end0
      exact ⟨⟨_, rfl⟩, .inl ⟨_, hJk⟩⟩
end Go.Proofs.Ytmgjknlpcnakiaa
