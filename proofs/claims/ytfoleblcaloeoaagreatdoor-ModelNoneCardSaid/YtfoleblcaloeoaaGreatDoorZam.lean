/- Texts merged for the claim: MoG. -/
import Derived.Test.YtfoleblcaloeoaaGreatDoorZal
/- What effects do to the machine: plain ends. -/
namespace Go.Proofs.YtfoleblcaloeoaaGreatDoor
open Go Go.RowKit

section
variable {w W : World} {m : Nat} {M : Mo} {O : Nat → Prop} {bp bo be : Nat} {fp fo fe : Int → Option Value} {gb : Int → Nat} {GF : Int → Nat → Prop} {ov : Int → Value}
theorem upd_at {α : Type} (f : Int → α) (z : Int) (v : α) : upd f z v z = v := by unfold upd; rw [if_pos rfl]
theorem upd_ne {α : Type} (f : Int → α) {z y : Int} (v : α) (h : y ≠ z) : upd f z v y = f y := by unfold upd; rw [if_neg h]
/-- a process turned into another -/
theorem proc_endG (hI : MIn w m M bp bo be fp fo fe gb GF ov) (hO : ∀ k, FMo M m bp bo be GF ov k → O k) (hl : ∀ k, O k → k < w.heap.size) {pid : Int} {p p' : Pr} {F' : Nat → Prop} (hp : M.pr pid = some p)
    {G : Nat → Prop} (hc : CP G w W) (hG : ∀ k, G k → GF pid k ∨ ¬ O k) (hP : PMem W (gb pid) p' F') (hF : ∀ k, F' k → GF pid k ∨ ¬ O k) :
    CP (fun k => O k ∨ G k) w W ∧ ∃ O', MMem W m { M with pr := upd M.pr pid (some p') } O' ∧ ∀ k, O' k → O k ∨ F' k := by
  have hm := hI.dm pid p hp
  have hno : ∀ k, O k → ¬ GF pid k → ¬ G k := fun k h1 h2 h3 => (hG k h3).elim h2 (fun h => h h1)
  have hlt : ∀ k, F' k → k < W.heap.size := by obtain ⟨_, _, _, _, _, _, _, _, _, h⟩ := hP; exact h
  have hsz := hc.size
  have hne : ∀ n q, upd M.pr pid (some p') n = some q → n ≠ pid → M.pr n = some q := fun n q h h2 => by rwa [upd_ne _ _ h2] at h
  have hgl : ∀ n q, M.pr n = some q → ∀ k, GF n k → O k := fun n q h k hk => hO k (.inr (.inr (.inr (.inr (.inl ⟨n, q, h, hk⟩)))))
  refine ⟨?_, fun k => O k ∨ F' k, ⟨bp, bo, be, fp, fo, fe, gb, upd GF pid F', ov, ⟨hI.blk.cp hc (hno m (hO m (.inl rfl)) (fun h => (hm m h).1 rfl)), hI.mp.cp hc (hno bp (hO bp (.inr (.inl rfl))) (fun h => (hm bp h).2.1 rfl)), hI.mo.cp hc (hno bo (hO bo (.inr (.inr (.inl rfl)))) (fun h => (hm bo h).2.2.1 rfl)), hI.me.cp hc (hno be (hO be (.inr (.inr (.inr (.inl rfl))))) (fun h => (hm be h).2.2.2.1 rfl)), ?_, ?_, ?_, ?_, hI.ho, fun z B hB => ⟨SB.cp (hI.ob z B hB).1 hc (fun k hk => hno k (hO k (.inr (.inr (.inr (.inr (.inr ⟨z, B, hB, hk⟩)))))) (fun h => (hm k h).2.2.2.2 z B hB hk)), (hI.ob z B hB).2⟩, hI.oa, hI.he, hI.d1, hI.d2, hI.d3, ?_⟩, ?_, ?_⟩, ?_⟩
  · obtain ⟨L, h1, h2⟩ := hc
    exact ⟨L, h1, fun k hk => (h2 k hk).imp .inr id⟩
  · intro n
    show fp n = (upd M.pr pid (some p') n).map _
    by_cases h : n = pid
    · rw [h, upd_at, hI.hp, hp]; rfl
    · rw [upd_ne _ _ h]; exact hI.hp n
  · intro n q h
    by_cases hn : n = pid
    · subst hn
      have e1 : upd M.pr n (some p') n = some q := h
      rw [upd_at] at e1
      obtain rfl := Option.some.inj e1
      rw [upd_at]
      exact hP
    · rw [upd_ne _ _ hn]
      exact (hI.pr n q (hne n q h hn)).cp hc (fun k hk => hno k (hgl n q (hne n q h hn) k hk) (fun h2 => hI.ap n pid q p (hne n q h hn) hp hn k hk h2))
  · intro n n' q q' h h' hnn k hk hk'
    by_cases e1 : n = pid
    · subst e1
      have e2 : n' ≠ n := fun e => hnn e.symm
      rw [upd_at] at hk
      rw [upd_ne _ _ e2] at hk'
      rcases hF k hk with h3 | h3
      · exact hI.ap n n' p q' hp (hne n' q' h' e2) hnn k h3 hk'
      · exact h3 (hgl n' q' (hne n' q' h' e2) k hk')
    · rw [upd_ne _ _ e1] at hk
      by_cases e2 : n' = pid
      · subst e2
        rw [upd_at] at hk'
        rcases hF k hk' with h3 | h3
        · exact hI.ap n n' q p (hne n q h e1) hp hnn k hk h3
        · exact h3 (hgl n q (hne n q h e1) k hk)
      · rw [upd_ne _ _ e2] at hk'
        exact hI.ap n n' q q' (hne n q h e1) (hne n' q' h' e2) hnn k hk hk'
  · intro n q h
    by_cases e1 : n = pid
    · rw [e1]; exact hI.rng pid p hp
    · exact hI.rng n q (hne n q h e1)
  · intro n q h k hk
    by_cases e1 : n = pid
    · subst e1
      rw [upd_at] at hk
      rcases hF k hk with h3 | h3
      · exact hm k h3
      · exact ⟨fun e => h3 (e ▸ hO m (.inl rfl)), fun e => h3 (e ▸ hO bp (.inr (.inl rfl))), fun e => h3 (e ▸ hO bo (.inr (.inr (.inl rfl)))), fun e => h3 (e ▸ hO be (.inr (.inr (.inr (.inl rfl))))), fun z B hB hk2 => h3 (hO k (.inr (.inr (.inr (.inr (.inr ⟨z, B, hB, hk2⟩))))))⟩
    · rw [upd_ne _ _ e1] at hk
      exact hI.dm n q (hne n q h e1) k hk
  · rintro k (rfl | rfl | rfl | rfl | ⟨n, q, h, hk⟩ | ⟨z, B, hB, hk⟩)
    · exact .inl (hO _ (.inl rfl))
    · exact .inl (hO _ (.inr (.inl rfl)))
    · exact .inl (hO _ (.inr (.inr (.inl rfl))))
    · exact .inl (hO _ (.inr (.inr (.inr (.inl rfl)))))
    · by_cases e1 : n = pid
      · subst e1
        rw [upd_at] at hk
        exact .inr hk
      · rw [upd_ne _ _ e1] at hk
        exact .inl (hO _ (.inr (.inr (.inr (.inr (.inl ⟨n, q, hne n q h e1, hk⟩))))))
    · exact .inl (hO _ (.inr (.inr (.inr (.inr (.inr ⟨z, B, hB, hk⟩))))))
  · rintro k (h | h)
    · have := hl k h; omega
    · exact hlt k h
  · rintro k (h | h)
    · exact .inl h
    · exact .inr h
/-- a process turned into another -/
theorem proc_end (hI : MIn w m M bp bo be fp fo fe gb GF ov) (hO : ∀ k, FMo M m bp bo be GF ov k → O k) (hl : ∀ k, O k → k < w.heap.size) {pid : Int} {p p' : Pr} {F' : Nat → Prop} (hp : M.pr pid = some p)
    (hc : CP (GF pid) w W) (hP : PMem W (gb pid) p' F') (hF : ∀ k, F' k → GF pid k ∨ ¬ O k) :
    CP O w W ∧ ∃ O', MMem W m { M with pr := upd M.pr pid (some p') } O' ∧ ∀ k, O' k → O k ∨ F' k := by
  obtain ⟨h1, h2⟩ := proc_endG hI hO hl hp hc (fun k h => .inl h) hP hF
  refine ⟨?_, h2⟩
  obtain ⟨L, g1, g2⟩ := h1
  exact ⟨L, g1, fun k hk => (g2 k hk).imp (fun h => h.elim id (fun h => hO k (.inr (.inr (.inr (.inr (.inl ⟨pid, p, hp, h⟩))))))) id⟩
/-- a process gone -/
theorem exit_end (hI : MIn w m M bp bo be fp fo fe gb GF ov) (hO : ∀ k, FMo M m bp bo be GF ov k → O k) (hl : ∀ k, O k → k < w.heap.size) {pid : Int}
    (h5 : MapB W bp .i64 fun y => if y = pid then none else fp y) (hc5 : Chg [bp] w W) :
    CP O w W ∧ ∃ O', MMem W m { M with pr := upd M.pr pid none } O' ∧ ∀ k, O' k → O k ∨ w.heap.size ≤ k := by
  have hcp : CP (fun k => k = bp) w W := CP.of hc5 (fun k hk => .inl (List.mem_singleton.1 hk))
  have hne : ∀ n q, upd M.pr pid none n = some q → n ≠ pid ∧ M.pr n = some q := fun n q h => by
    by_cases e : n = pid
    · subst e; rw [upd_at] at h; cases h
    · rw [upd_ne _ _ e] at h; exact ⟨e, h⟩
  refine ⟨CP.of hc5 (fun k hk => .inl (by obtain rfl := List.mem_singleton.1 hk; exact hO _ (.inr (.inl rfl)))), O, ⟨bp, bo, be, _, fo, fe, gb, GF, ov, ⟨hI.blk.cp hcp (hI.blk.ne_map hI.mp), h5, hI.mo.cp hcp (fun e => hI.d1 e.symm), hI.me.cp hcp (fun e => hI.d2 e.symm), ?_, ?_, ?_, ?_, hI.ho, fun z B hB => ⟨SB.cp (hI.ob z B hB).1 hcp (fun k hk e => SB.ne_map (hI.ob z B hB).1 hI.mp (e ▸ hk)), (hI.ob z B hB).2⟩, hI.oa, hI.he, hI.d1, hI.d2, hI.d3, ?_⟩, ?_, ?_⟩, fun k hk => .inl hk⟩
  · intro n
    show (if n = pid then none else fp n) = (upd M.pr pid none n).map _
    by_cases h : n = pid
    · rw [if_pos h, h, upd_at]; rfl
    · rw [if_neg h, upd_ne _ _ h]; exact hI.hp n
  · intro n q h
    obtain ⟨e, h2⟩ := hne n q h
    exact (hI.pr n q h2).cp hcp (fun k hk e2 => (hI.dm n q h2 k hk).2.1 e2)
  · intro n n' q q' h h' hnn k hk hk'
    exact hI.ap n n' q q' (hne n q h).2 (hne n' q' h').2 hnn k hk hk'
  · intro n q h
    exact hI.rng n q (hne n q h).2
  · intro n q h k hk
    exact hI.dm n q (hne n q h).2 k hk
  · rintro k (rfl | rfl | rfl | rfl | ⟨n, q, h, hk⟩ | ⟨z, B, hB, hk⟩)
    · exact hO _ (.inl rfl)
    · exact hO _ (.inr (.inl rfl))
    · exact hO _ (.inr (.inr (.inl rfl)))
    · exact hO _ (.inr (.inr (.inr (.inl rfl))))
    · exact hO _ (.inr (.inr (.inr (.inr (.inl ⟨n, q, (hne n q h).2, hk⟩)))))
    · exact hO _ (.inr (.inr (.inr (.inr (.inr ⟨z, B, hB, hk⟩)))))
  · intro k hk
    have := hl k hk
    have := hc5.size
    omega
/-- the objects turned: a map of objects read anew, the others as they were -/
theorem obj_end (hI : MIn w m M bp bo be fp fo fe gb GF ov) (hO : ∀ k, FMo M m bp bo be GF ov k → O k) (hl : ∀ k, O k → k < w.heap.size) {L : List Nat} (hc : Chg L w W) (hL : ∀ k ∈ L, k = bo ∨ k = be ∨ (∃ h B, M.ob h = some B ∧ k ∈ own (ov h)) ∨ w.heap.size ≤ k)
    {ob' : Int → Option (List Nat)} {ev' : Int → Bool} {fo' fe' : Int → Option Value} {ov' : Int → Value} (ho : MapB W bo .u64 fo') (he : MapB W be .u64 fe')
    (h1 : ∀ h, fo' h = (ob' h).map fun _ => ov' h) (h2 : ∀ h B, ob' h = some B → SB W (ov' h) B ∧ (∀ x ∈ B, x < 256) ∧ B.length ≤ 128)
    (h3 : ∀ h h' B B', ob' h = some B → ob' h' = some B' → h ≠ h' → ∀ k ∈ own (ov' h), k ∉ own (ov' h')) (h4 : ∀ h, fe' h = if ev' h then some (.bool true) else none)
    (h5 : ∀ h B, ob' h = some B → ∀ k ∈ own (ov' h), (∃ h' B', M.ob h' = some B' ∧ k ∈ own (ov h')) ∨ w.heap.size ≤ k) :
    CP O w W ∧ ∃ O', MMem W m { M with ob := ob', ev := ev' } O' ∧ ∀ k, O' k → O k ∨ w.heap.size ≤ k := by
  have hG : CP (fun k => k = bo ∨ k = be ∨ ∃ h B, M.ob h = some B ∧ k ∈ own (ov h)) w W := CP.of hc (fun k hk => by
    rcases hL k hk with h | h | h | h
    · exact .inl (.inl h)
    · exact .inl (.inr (.inl h))
    · exact .inl (.inr (.inr h))
    · exact .inr h)
  have n1 : ∀ z B, M.ob z = some B → m ∉ own (ov z) := fun z B hB hk => by
    obtain ⟨cur, hcur⟩ := Sl.blk (hI.ob z B hB).1 hk
    exact Blk.ne_ hI.blk hcur (by decide) rfl
  have n2 : ∀ z B, M.ob z = some B → bp ∉ own (ov z) := fun z B hB hk => SB.ne_map (hI.ob z B hB).1 hI.mp hk
  have hsz := hc.size
  refine ⟨?_, fun k => O k ∨ ∃ h B, ob' h = some B ∧ k ∈ own (ov' h), ⟨bp, bo, be, fp, fo', fe', gb, GF, ov', ⟨hI.blk.cp hG ?_, hI.mp.cp hG ?_, ho, he, hI.hp, ?_, hI.ap, hI.rng, h1, h2, h3, h4, hI.d1, hI.d2, hI.d3, ?_⟩, ?_, ?_⟩, ?_⟩
  · obtain ⟨G, g1, g2⟩ := hG
    refine ⟨G, g1, fun k hk => (g2 k hk).imp (fun h => ?_) id⟩
    rcases h with rfl | rfl | ⟨z, B, hB, hk2⟩
    · exact hO _ (.inr (.inr (.inl rfl)))
    · exact hO _ (.inr (.inr (.inr (.inl rfl))))
    · exact hO _ (.inr (.inr (.inr (.inr (.inr ⟨z, B, hB, hk2⟩)))))
  · rintro (h | h | ⟨z, B, hB, hk⟩)
    · exact hI.blk.ne_map hI.mo h
    · exact hI.blk.ne_map hI.me h
    · exact n1 z B hB hk
  · rintro (h | h | ⟨z, B, hB, hk⟩)
    · exact hI.d1 h
    · exact hI.d2 h
    · exact n2 z B hB hk
  · intro n q h
    exact (hI.pr n q h).cp hG (fun k hk hg => by
      have hd := hI.dm n q h k hk
      rcases hg with h | h | ⟨z, B, hB, hk2⟩
      · exact hd.2.2.1 h
      · exact hd.2.2.2.1 h
      · exact hd.2.2.2.2 z B hB hk2)
  · intro n q h k hk
    have hd := hI.dm n q h k hk
    refine ⟨hd.1, hd.2.1, hd.2.2.1, hd.2.2.2.1, fun z B hB hk2 => ?_⟩
    rcases h5 z B hB k hk2 with ⟨z', B', hB', hk3⟩ | h6
    · exact hd.2.2.2.2 z' B' hB' hk3
    · have := hl k (hO k (.inr (.inr (.inr (.inr (.inl ⟨n, q, h, hk⟩))))))
      omega
  · rintro k (rfl | rfl | rfl | rfl | ⟨n, q, h, hk⟩ | ⟨z, B, hB, hk⟩)
    · exact .inl (hO _ (.inl rfl))
    · exact .inl (hO _ (.inr (.inl rfl)))
    · exact .inl (hO _ (.inr (.inr (.inl rfl))))
    · exact .inl (hO _ (.inr (.inr (.inr (.inl rfl)))))
    · exact .inl (hO _ (.inr (.inr (.inr (.inr (.inl ⟨n, q, h, hk⟩))))))
    · exact .inr ⟨z, B, hB, hk⟩
  · rintro k (h | ⟨z, B, hB, hk⟩)
    · have := hl k h; omega
    · exact (h2 z B hB).1.own_lt k hk
  · rintro k (h | ⟨z, B, hB, hk⟩)
    · exact .inl h
    · exact (h5 z B hB k hk).imp (fun ⟨z', B', hB', hk'⟩ => hO _ (.inr (.inr (.inr (.inr (.inr ⟨z', B', hB', hk'⟩)))))) id
end
end Go.Proofs.YtfoleblcaloeoaaGreatDoor
