/- A drawn region within a round of a range over a function: by the same walk as anywhere. -/
import Derived.Test.YtmgjknlpcnakiaaTextG
import Derived.RangeFuncNested
import Derived.RangeFuncCalls
import Derived.RangeFuncLeaves
import Derived.OwnWalkIn
namespace Go.Proofs.Ytmgjknlpcnakiaa
open Go

section
variable {P : Program} {j n : Nat}
theorem upon_in {o : Oper} {a : Act} {next next' : Act → World → Prop} {Q : Exit → Act → World → Prop} {r : Result Next} (hn : ∀ a w, next a w → next' a w) (h : o.upon P a next Q r) : o.uponIn (Fence.wide.inRound j) n P a next' Q r := by
  cases r with
  | ok x w' =>
    cases x with
    | value v => exact hn _ _ h
    | skip => exact hn _ _ h
    | defer d => exact hn _ _ h
    | enter f args =>
      have h' : Calls P f args w' (fun
        | .returned v, w'' => next (a.put o.dst v) w''
        | .panicked chain, w'' => Q (.panic chain) a w''
        | .outgrown, _ => LetsOut Q) := h
      refine ⟨fun e => (by cases e), CallsIn.inRound j ((callsIn_wide.2 h').mono fun e w'' hr => ?_)⟩
      cases e with
      | returned v => exact hn _ _ hr
      | panicked chain => exact hr
      | outgrown => exact hr
    | row row args =>
      have h' : Rows P row args w' (fun v w'' => next (a.put o.dst v) w'') := h
      refine ⟨fun e => (by cases e), fun c cs _ => ?_⟩
      obtain ⟨v, w'', r, s⟩ := h' c cs
      exact ⟨v, w'', hn _ _ r, stepsIn_wide.2 s⟩
    | _ => exact False.elim h
  | halt x w' =>
    cases x with
    | panic v => exact h
    | _ => exact False.elim h
theorem wpOps_in {ops : Array Oper} {Q : Exit → Act → World → Prop} (hd : ∀ (i : Nat) (o : Oper), ops[i]? = some o → ∀ c, o.op ≠ Op.defer c) (hQ : ¬ LetsOut Q) : ∀ (L : List Nat) (a : Act) (w : World), wpOps P ops Q L a w → wpOpsIn (Fence.wide.inRound j) n P ops Q L a w
  | [], _, _, h => h
  | i :: L, a, w, h => by
    simp only [wpOps, wpOpsIn] at h ⊢
    cases ho : ops[i]? with
    | none =>
      rw [ho] at h
      exact wpOps_in hd hQ L a w h
    | some o =>
      rw [ho] at h
      simp only at h ⊢
      split
      · rename_i hw
        rw [if_pos hw] at h
        rcases h with h | ⟨_, h⟩
        · refine ⟨fun _ _ => trivial, ?_⟩
          rw [Oper.semAt_plain _ _ _ (hd i o ho)]
          exact upon_in (fun a w h => wpOps_in hd hQ L a w h) h
        · exact (hQ h).elim
      · rename_i hw
        rw [if_neg hw] at h
        exact ⟨fun _ _ => trivial, wpOps_in hd hQ L _ w h⟩
def noDefer (l : List Oper) : Bool := l.all fun o => match o.op with | .defer _ => false | _ => true
theorem noDefer_spec {l : List Oper} (h : noDefer l = true) : ∀ (i : Nat) (o : Oper), l.toArray[i]? = some o → ∀ c, o.op ≠ Op.defer c := fun i o ho c e => by
  have hm : o ∈ l := List.mem_of_getElem? (by simpa using ho)
  have := List.all_eq_true.1 h o hm
  rw [e] at this
  cases this
/-- THE RULE: a drawn region within a round -/
theorem wpIn_region_g {id : Nat} {l : List Oper} {Q : Exit → Act → World → Prop} {a : Act} {w : World} (ks : List Nat) (gs : List (Option (Nat × Bool))) (S : World → Prop) (hm : P.follows .mixedOrders = true)
    (hB : ordersB l ks.toArray [List.range l.length] = true) (hR : restB l ks gs = true) (hD : noDefer l = true) (hQ : ¬ LetsOut Q) (h : wpG P S Q l ks gs a w.drew) : (Code.region id l.toArray true).wpIn (Fence.wide.inRound j) n P Q a w := by
  refine wpIn_region_draw fun t => wpOps_in (noDefer_spec hD) hQ _ _ _ ?_
  simp only [Region.schedule, hm, Bool.true_or, if_true]
  have hR' := hR
  simp only [restB, Bool.and_eq_true, beq_iff_eq] at hR'
  refine ordersB_spec (S := S) hB (fun L hL => ?_) t
  obtain rfl : L = List.range l.length := by simpa using hL
  have hL' : ∀ i ∈ List.range l.length, i < l.length := fun i hi => by simpa using hi
  have e1 := pick_range ks
  have e2 := pick_range gs
  rw [hR'.1.1] at e1
  rw [hR'.1.2] at e2
  have h1 : wpG P S Q (picks l (List.range l.length)) (picks ks (List.range l.length)) (picks gs (List.range l.length)) a w.drew := by rw [pick_range l, e1, e2]; exact h
  rw [wpG_eq (ops := l.toArray) _ _ _ (by rw [pick_zip hL' (by omega), pick_length (by intro i hi; rw [List.length_zip]; have := hL' i hi; omega), pick_length hL']) (by
    rw [pick_zip hL' (by omega)]
    exact List.all_eq_true.2 fun x hx => List.all_eq_true.1 hR'.2 x (pick_mem hx))] at h1
  refine wpR_of (picks l (List.range l.length)) (picks ks (List.range l.length)) (by simpa using pick_get hL') ?_ h1
  have e := pick_get (l := ks) (L := List.range l.length) (by intro i hi; have := hL' i hi; omega)
  have e3 : (List.range l.length).map (fun i => ks.toArray.getD i 3) = ((List.range l.length).map fun i => ks[i]?).map (·.getD 3) := by simp [Array.getD_eq_getD_getElem?]
  rw [e3, e]
  simp [Function.comp_def]
end
end Go.Proofs.Ytmgjknlpcnakiaa
