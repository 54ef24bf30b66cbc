/- An area beside the document's: what a law of both keeps. -/
import Derived.Test.YtmgjknlpcnakiaaRfD
import Derived.Test.YtmgjknlpcnakiaaArQ
namespace Go.Proofs.Ytmgjknlpcnakiaa
open Go Go.RowKit Go.Shelf

/-- an area of the law's, and the document's -/
structure PSt (w W : World) (d : Nat) (l : List Rn) (b : Nat) (m : List Rn) (N : List Nat) : Prop where
  st : ASt w W d l (b :: N)
  pa : PA W b (rt m)
  sp : Sp m
  hb : w.heap.size ≤ b
  hN : ∀ k ∈ N, w.heap.size ≤ k ∧ k ≠ b
section
variable {w W W' : World} {d b : Nat} {l m l' m' : List Rn} {N : List Nat} {x : Int} {f : FuncId} {args : Array Value}
theorem PSt.chg (h : PSt w W d l b m N) : Chg [] w W := h.st.chg
theorem PSt.stay (h : PSt w W d l b m N) (hc : Chg [] W W') : PSt w W' d l b m N := { h with st := h.st.stay hc, pa := h.pa.chg hc List.not_mem_nil }
theorem PSt.less (h : PSt w W d l b m N) : PSt w W d l b m [] := { h with st := h.st.less (fun k hk => by obtain rfl := List.mem_singleton.1 hk; simp), hN := by simp }
theorem PSt.more (h : PSt w W d l b m []) {bo : Nat} (hc : Chg [] W W') (h1 : W.heap.size ≤ bo) (h2 : bo < W'.heap.size) : PSt w W' d l b m [bo] where
  st := by
    have := h.st.more (M := [bo]) hc (by simp; omega)
    exact this.less (fun k hk => by
      rcases List.mem_cons.1 hk with rfl | hk
      · simp
      · obtain rfl := List.mem_singleton.1 hk; simp)
  pa := h.pa.chg hc List.not_mem_nil
  sp := h.sp
  hb := h.hb
  hN := fun k hk => by
    obtain rfl := List.mem_singleton.1 hk
    have := h.pa.lt
    have := h.chg.size
    omega
theorem PSt.area (h : PSt w W d l b m N) (hc : Calls Try.prog f args W fun e w' => e = .returned (.int .i64 x) ∧ ASt w w' d l' (b :: N) ∧ Keep (b :: N) W w') :
    Calls Try.prog f args W fun e w' => e = .returned (.int .i64 x) ∧ PSt w w' d l' b m N ∧ Keep N W w' := by
  refine hc.mono ?_
  rintro e w' ⟨rfl, h1, h2⟩
  exact ⟨rfl, { h with st := h1, pa := h2.blk h.pa (by simp) }, h2.sub fun k hk => List.mem_cons_of_mem _ hk⟩
theorem PSt.doc (h : PSt w W d l b m N) (hs : Sp m') (hc : Calls Try.prog f args W (ROp W b m' x)) :
    Calls Try.prog f args W fun e w' => e = .returned (.int .i64 x) ∧ PSt w w' d l b m' N ∧ Keep N W w' := by
  refine hc.mono ?_
  rintro e w' ⟨rfl, h1, h2⟩
  have hlt := h.st.choose_spec.2.2.2.2
  refine ⟨rfl, { h with st := h.st.over (h2.mono (fun x hx => .inl (by obtain rfl := List.mem_singleton.1 hx; simp))) (fun k hk => ?_), pa := h1, sp := hs }, keep_chg h2 fun k hk => ⟨hlt k (List.mem_cons_of_mem _ hk), fun h' => (h.hN k hk).2 (List.mem_singleton.1 h')⟩⟩
  rcases List.mem_cons.1 hk with rfl | hk
  · exact h.hb
  · exact (h.hN k hk).1
theorem ps_map (h : PSt w W d l b m N) (page count g : Int) : Calls Try.prog 15 #[.pointer (some ⟨d, 0, none⟩), .int .i64 page, .int .i64 count, .int .u8 g] W fun e w' => e = .returned (.int .i64 (mapE l page count g)) ∧ PSt w w' d (mapR l page count g) b m N ∧ Keep N W w' := h.area (ast_map h.st page count g rfl rfl)
theorem ps_un (h : PSt w W d l b m N) (page count : Int) : Calls Try.prog 17 #[.pointer (some ⟨d, 0, none⟩), .int .i64 page, .int .i64 count] W fun e w' => e = .returned (.int .i64 (unE l page count)) ∧ PSt w w' d (unR l page count) b m N ∧ Keep N W w' := h.area (ast_un h.st page count rfl rfl)
theorem ps_pr (h : PSt w W d l b m N) (page count g : Int) : Calls Try.prog 18 #[.pointer (some ⟨d, 0, none⟩), .int .i64 page, .int .i64 count, .int .u8 g] W fun e w' => e = .returned (.int .i64 (prE l page count g)) ∧ PSt w w' d (prR l page count g) b m N ∧ Keep N W w' := h.area (ast_pr h.st page count g rfl rfl)
theorem ps_rmap (h : PSt w W d l b m N) (page count g : Int) : Calls Try.prog 19 #[.pointer (some ⟨b, 0, none⟩), .int .i64 page, .int .i64 count, .int .u8 g] W fun e w' => e = .returned (.int .i64 (mapE m page count g)) ∧ PSt w w' d l b (mapR m page count g) N ∧ Keep N W w' := h.doc (h.sp.map _ _ _) (rMap_any h.pa h.sp page count g)
theorem ps_run (h : PSt w W d l b m N) (page count : Int) : Calls Try.prog 20 #[.pointer (some ⟨b, 0, none⟩), .int .i64 page, .int .i64 count] W fun e w' => e = .returned (.int .i64 (unE m page count)) ∧ PSt w w' d l b (unR m page count) N ∧ Keep N W w' := h.doc (h.sp.un _ _) (rUn_any h.pa h.sp page count)
theorem ps_rpr (h : PSt w W d l b m N) (page count g : Int) : Calls Try.prog 21 #[.pointer (some ⟨b, 0, none⟩), .int .i64 page, .int .i64 count, .int .u8 g] W fun e w' => e = .returned (.int .i64 (prE m page count g)) ∧ PSt w w' d l b (prR m page count g) N ∧ Keep N W w' := h.doc (h.sp.pr _ _ _) (rPr_any h.pa h.sp page count g)
theorem ps_md (h : PSt w W d l b m N) (page count : Int) : Calls Try.prog 16 #[.pointer (some ⟨d, 0, none⟩), .int .i64 page, .int .i64 count] W fun e w' => e = .returned (.int .i64 (mdE l page count)) ∧ PSt w w' d l b m N ∧ Chg [] W w' := (ast_md h.st page count rfl).mono (by rintro e w' ⟨rfl, hc⟩; exact ⟨rfl, h.stay hc, hc⟩)
theorem ps_rmd (h : PSt w W d l b m N) (page count : Int) : Calls Try.prog 22 #[.pointer (some ⟨b, 0, none⟩), .int .i64 page, .int .i64 count] W fun e w' => e = .returned (.int .i64 (mdE m page count)) ∧ W = w' := rMd_any h.pa h.sp page count
theorem ps_rights (h : PSt w W d l b m N) (q : Int) : Calls Try.prog 13 #[.pointer (some ⟨d, 0, none⟩), .int .i64 q] W fun e w' => e = .returned (.tuple #[.int .u8 (rt l q), .bool (hasB l q)]) ∧ PSt w w' d l b m N ∧ Chg [] W w' := (ast_rights h.st q rfl rfl).mono (by rintro e w' ⟨rfl, hc⟩; exact ⟨rfl, h.stay hc, hc⟩)
theorem ps_rrights (h : PSt w W d l b m N) (q : Int) : Calls Try.prog 23 #[.pointer (some ⟨b, 0, none⟩), .int .i64 q] W fun e w' => e = .returned (.tuple #[.int .u8 (rt m q), .bool (hasB m q)]) ∧ W = w' := Rights_any h.pa (fun q hq => by rw [h.sp.rt_in, if_neg (by omega)]) q
theorem ps_same (h : PSt w W d l b l N) : Calls Try.prog 25 #[.pointer (some ⟨d, 0, none⟩), .pointer (some ⟨b, 0, none⟩)] W fun e w' => e = .returned (.bool true) ∧ PSt w w' d l b l N ∧ Chg [] W w' := (same_any h.st.choose_spec.1 h.st.sp h.pa).mono (by rintro e w' ⟨rfl, hc⟩; exact ⟨rfl, h.stay hc, hc⟩)
/-- the copy goes on, and what is done to the old one does not matter -/
theorem ps_copy (h : PSt w W d l b m N) : Calls Try.prog 24 #[.pointer (some ⟨d, 0, none⟩)] W fun en w' => ∃ e, en = .returned (.pointer (some ⟨e, 0, none⟩)) ∧ A2 w w' d l e l (b :: N) ∧ PA w' b (rt m) ∧ Chg [] W w' := by
  obtain ⟨F, h1, h2, h3, h4, h5⟩ := h.st
  refine (copy_at h1 (by have := h2.len; omega)).mono ?_
  rintro en w' ⟨e, G, rfl, hG, hGn, hc⟩
  refine ⟨e, rfl, ⟨F, G, h1.stay hc, hG, h2, h2, fun k hk => ⟨(h3 k hk).1, (h3 k hk).2, fun h' => ?_⟩, fun k hk => ⟨Nat.le_trans h4.size (hGn k hk), fun h' => ?_⟩, h4.stay hc, fun k hk => Nat.lt_of_lt_of_le (h5 k hk) hc.size⟩, h.pa.chg hc List.not_mem_nil, hc⟩
  · have := h1.lt _ hk; have := hGn k h'; omega
  · have := h5 k h'; have := hGn k hk; omega
theorem PSt.of_a2 {e : Nat} {l1 : List Rn} (h : PSt w W d l b m N) (h2 : A2 w W' d l1 e l (b :: N)) (hp : PA W' b (rt m)) : PSt w W' e l b m N := { h with st := h2.symm.fst, pa := hp }
end
end Go.Proofs.Ytmgjknlpcnakiaa
