/- Read: a call out of bytes. -/
import Derived.Test.YtinlpjgjjplceaaDoorCaJ
namespace Go.Proofs.YtinlpjgjjplceaaDoor
open Go Go.RowKit

/-- what is read so far: the call, what is left, whether it went bad -/
structure St where
  x : Cl
  S : List Nat
  bad : Bool
def M64 : Nat := 18446744073709551615
def stN (st : St) (m : Nat) (x : Cl) : St := ⟨x, rdS st.S, rdB m st.S st.bad⟩
def stF (st : St) (f : Nat) : St :=
  if f = 112 then stN st M64 { st.x with p := iw64 (rdN M64 st.S) } else if f = 103 then stN st M64 { st.x with g := iw64 (rdN M64 st.S) } else if f = 99 then stN st M64 { st.x with c := iw64 (rdN M64 st.S) }
  else if f = 110 then stN st M64 { st.x with n := iw64 (rdN M64 st.S) } else if f = 97 then stN st M64 { st.x with a := iw64 (rdN M64 st.S) } else if f = 115 then stN st M64 { st.x with s := iw64 (rdN M64 st.S) }
  else if f = 114 then stN st 255 { st.x with r := rdN 255 st.S }
  else if f = 111 then stN (stN st 255 { st.x with ok := rdN 255 st.S }) 255 { st.x with ok := rdN 255 st.S, om := rdN 255 (rdS st.S) }
  else if f = 104 then stN st M64 { st.x with h := rdN M64 st.S }
  else if f = 98 then ⟨{ st.x with l := bsL st.S }, bsS st.S, bsB st.S st.bad⟩ else st
def st0 (B : List Nat) : St := ⟨{ zCl with k := rdN 255 B }, rdS B, rdB 255 B false⟩
def stAll (st : St) (F : List Nat) : St := F.foldl stF st
def stEnd (B : List Nat) : St := stAll (st0 B) (fld (rdN 255 B))
def okR (B : List Nat) : Bool := !(stEnd B).bad && (stEnd B).S == [] && mayK (stEnd B).x
def readC (B : List Nat) : Cl := if okR B then (stEnd B).x else zCl
def readE (B : List Nat) : Int := if okR B then 0 else 5
/-- what is kept -/
structure StOk (n : Nat) (st : St) : Prop where
  x : st.x.Ok
  b : ∀ b ∈ st.S, b < 256
  l : st.S.length ≤ n
theorem zCl_ok : zCl.Ok := ⟨by decide, by decide, by decide, by decide, by decide, by decide, by decide, by decide, by decide, by decide, by decide, by intro b hb; cases hb⟩
theorem rdN_lt (m : Nat) {S : List Nat} (h : ∀ b ∈ S, b < 256) : rdN m S < 18446744073709551616 := by
  unfold rdN
  split
  · omega
  · split
    · omega
    · have h1 := leN_lt (S.take 8) (fun b hb => h b (List.mem_of_mem_take hb))
      have h2 : 2 ^ (8 * (S.take 8).length) ≤ 2 ^ 64 := Nat.pow_le_pow_right (by omega) (by rw [List.length_take]; omega)
      omega
theorem bsL_mem {S : List Nat} {b : Nat} (h : b ∈ bsL S) : b ∈ S := by
  unfold bsL at h
  split at h
  · cases h
  · exact rdS_mem (List.mem_of_mem_take h)
theorem bsS_mem {S : List Nat} {b : Nat} (h : b ∈ bsS S) : b ∈ S := by
  unfold bsS at h
  split at h
  · exact rdS_mem h
  · exact rdS_mem (List.mem_of_mem_drop h)
theorem bsS_len (S : List Nat) : (bsS S).length ≤ S.length := by
  have := rdS_len S
  unfold bsS
  split
  · exact this
  · rw [List.length_drop]; omega
theorem stN_ok {n m : Nat} {st : St} {x : Cl} (h : StOk n st) (hx : x.Ok) : StOk n (stN st m x) := ⟨hx, fun b hb => h.b b (rdS_mem hb), Nat.le_trans (rdS_len _) h.l⟩
theorem stF_ok {n : Nat} {st : St} (h : StOk n st) (f : Nat) : StOk n (stF st f) := by
  have hr := rdN_lt M64 h.b
  have hi := iw64_in hr
  have hx := h.x
  have h1 := rdN_le 255 st.S
  have h2 := rdN_le 255 (rdS st.S)
  unfold stF
  by_cases f112 : f = 112
  · rw [if_pos f112]
    exact stN_ok h { hx with p := hi }
  rw [if_neg f112]
  by_cases f103 : f = 103
  · rw [if_pos f103]
    exact stN_ok h { hx with g := hi }
  rw [if_neg f103]
  by_cases f99 : f = 99
  · rw [if_pos f99]
    exact stN_ok h { hx with c := hi }
  rw [if_neg f99]
  by_cases f110 : f = 110
  · rw [if_pos f110]
    exact stN_ok h { hx with n := hi }
  rw [if_neg f110]
  by_cases f97 : f = 97
  · rw [if_pos f97]
    exact stN_ok h { hx with a := hi }
  rw [if_neg f97]
  by_cases f115 : f = 115
  · rw [if_pos f115]
    exact stN_ok h { hx with s := hi }
  rw [if_neg f115]
  by_cases f114 : f = 114
  · rw [if_pos f114]
    exact stN_ok h { hx with r := show rdN 255 st.S < 256 by omega }
  rw [if_neg f114]
  by_cases f111 : f = 111
  · rw [if_pos f111]
    exact stN_ok (x := { st.x with ok := rdN 255 st.S, om := rdN 255 (rdS st.S) }) (stN_ok h { hx with ok := show rdN 255 st.S < 256 by omega }) { hx with ok := show rdN 255 st.S < 256 by omega, om := show rdN 255 (rdS st.S) < 256 by omega }
  rw [if_neg f111]
  by_cases f104 : f = 104
  · rw [if_pos f104]
    exact stN_ok h { hx with h := hr }
  rw [if_neg f104]
  by_cases f98 : f = 98
  · rw [if_pos f98]
    exact ⟨{ hx with l := fun b hb => h.b b (bsL_mem hb) }, fun b hb => h.b b (bsS_mem hb), Nat.le_trans (bsS_len _) h.l⟩
  rw [if_neg f98]
  exact h
theorem stAll_snoc (st : St) (F : List Nat) (f : Nat) : stAll st (F ++ [f]) = stF (stAll st F) f := by unfold stAll; rw [List.foldl_append]; rfl
theorem stAll_ok {n : Nat} : ∀ (F : List Nat) {st : St}, StOk n st → StOk n (stAll st F)
  | [], _, h => h
  | f :: F, _, h => stAll_ok F (stF_ok h f)
theorem st0_ok {B : List Nat} (h8 : ∀ b ∈ B, b < 256) : StOk B.length (st0 B) :=
  ⟨{ zCl_ok with k := show rdN 255 B < 256 from by have := rdN_le 255 B; omega }, fun b hb => h8 b (rdS_mem hb), rdS_len B⟩
theorem i64_wrap {n : Nat} (h : n < 18446744073709551616) : IntKind.i64.wrap (n : Int) = iw64 n := by
  unfold iw64
  rw [IntKind.wrap_i64]
  split <;> omega
theorem RD.chg {w w' : World} {rb : Nat} {v : Value} {S F : List Nat} {bad : Bool} (h : RD w rb v S bad) (hc : Chg F w w') (h1 : rb ∉ F) (h2 : 0 < S.length → ∀ k ∈ own v, k ∉ F) : RD w' rb v S bad := ⟨h.b.chg hc h1, RB_chg h.r hc h2, h.n⟩
theorem wpList_load34W {ops : Array Oper} {rest : List Oper} {o : Oper} {a : Act} {w : World} {Q : Exit → Act → World → Prop} {b : Nat} {x : Cl} {v : Value} (z : Operand) (ho : o.op = .load 34 z)
    (hx : a.eval z = .pointer (some ⟨b, 0, none⟩)) (hw : Region.wanted o (yielded ops a.tmps) = true) (h0 : KB w b x v) (h : wpList Tryd.prog ops Q rest (a.put o.dst (.agg (clc x v))) w) : wpList Tryd.prog ops Q (o :: rest) a w :=
  wpList_step fun K hK => by
    rw [if_pos hw]
    exact wp_load_row 34 z ho b hx 34 _ (0, 0) _ h0 Tryd.underlying34 rfl info34 (hK _ _ h)
theorem results_two {fn : Func} {p q : Tmp} {w : World} {b : Nat} {x : Cl} {v : Value} (h : fn.results = #[.cell p 34, .tmp q]) (tmps : Array Value) (hp : tmps.getD p undef = .pointer (some ⟨b, 0, none⟩)) (hb : KB w b x v) :
    (results fn tmps).run Tryd.prog w = .ok (.tuple #[.agg (clc x v), tmps.getD q undef]) w := by
  have hp' : tmps[p]?.getD undef = .pointer (some ⟨b, 0, none⟩) := by simpa using hp
  have hl := run_loadVar_row w b 34 34 _ (0, 0) _ hb Tryd.underlying34 rfl info34
  simp [results, h, hp', asAddr, hl]
def ReadR (w w' : World) (B : List Nat) (e : Ending) : Prop := ∃ A n c, e = .returned (.tuple #[.agg (clc (readC B) (.slice A n c)), .int .i64 (readE B)]) ∧ SB w' (.slice A n c) (readC B).l ∧ ∀ k ∈ own (.slice A n c), w.heap.size ≤ k
/-- the reader of a range's round -/
def RdV (w : World) (rb : Nat) (v : Value) (S : List Nat) (bad : Bool) : Prop := ∃ v', RD w rb v' S bad ∧ (∀ k ∈ own v', k ∈ own v) ∧ ∃ A n c, v' = .slice A n c
theorem RdV.chg {w w' : World} {rb : Nat} {v : Value} {S F : List Nat} {bad : Bool} (h : RdV w rb v S bad) (hc : Chg F w w') (h1 : rb ∉ F) (h2 : 0 < S.length → ∀ k ∈ own v, k ∉ F) : RdV w' rb v S bad := by
  obtain ⟨v', hr, ho, hf⟩ := h
  exact ⟨v', hr.chg hc h1 (fun hp k hk => h2 hp k (ho k hk)), ho, hf⟩
theorem RdV.upto {w : World} {rb : Nat} {v : Value} {S : List Nat} {bad : Bool} (h : RdV w rb v S bad) (h8 : ∀ b ∈ S, b < 256) (hlen : S.length ≤ 100000) {most : Nat} (hm : most < 18446744073709551616) :
    Calls Tryd.prog 47 #[.pointer (some ⟨rb, 0, none⟩), .int .u64 most] w fun e w' => e = .returned (.int .u64 (rdN most S : Nat)) ∧ RdV w' rb v (rdS S) (rdB most S bad) ∧ Chg [rb] w w' := by
  obtain ⟨v', hr, ho, hf⟩ := h
  refine (upto_any hr h8 hlen hm).mono ?_
  rintro e w' ⟨⟨he, v2, h2, ho2, hf2⟩, hc⟩
  exact ⟨he, ⟨v2, h2, fun k hk => ho k (ho2 k hk), hf2⟩, hc⟩
theorem RdV.any {w : World} {rb : Nat} {v : Value} {S : List Nat} {bad : Bool} (h : RdV w rb v S bad) (h8 : ∀ b ∈ S, b < 256) (hlen : S.length ≤ 100000) :
    Calls Tryd.prog 48 #[.pointer (some ⟨rb, 0, none⟩)] w fun e w' => e = .returned (.int .u64 (rdN M64 S : Nat)) ∧ RdV w' rb v (rdS S) (rdB M64 S bad) ∧ Chg [rb] w w' := by
  obtain ⟨v', hr, ho, hf⟩ := h
  refine (any_any hr h8 hlen).mono ?_
  rintro e w' ⟨⟨he, v2, h2, ho2, hf2⟩, hc⟩
  exact ⟨he, ⟨v2, h2, fun k hk => ho k (ho2 k hk), hf2⟩, hc⟩
theorem RdV.bytes {w : World} {rb : Nat} {v : Value} {S : List Nat} {bad : Bool} (h : RdV w rb v S bad) (h8 : ∀ b ∈ S, b < 256) (hlen : S.length ≤ 100000) :
    Calls Tryd.prog 49 #[.pointer (some ⟨rb, 0, none⟩)] w fun e w' => (∃ A n c, e = .returned (.slice A n c) ∧ SB w' (.slice A n c) (bsL S) ∧ ∀ k ∈ own (.slice A n c), w.heap.size ≤ k) ∧ RdV w' rb v (bsS S) (bsB S bad) ∧ Chg [rb] w w' := by
  obtain ⟨v', hr, ho, hf⟩ := h
  refine (bytes_any hr h8 hlen).mono ?_
  rintro e w' ⟨⟨he, v2, h2, ho2, hf2⟩, hc⟩
  exact ⟨he, ⟨v2, h2, fun k hk => ho k (ho2 k hk), hf2⟩, hc⟩
theorem SB.not_blk {w : World} {v : Value} {l : List Nat} {b t : Nat} {cs : Array Value} (h : SB w v l) (hb : Blk w b t cs) (ht : t ≠ 5) : b ∉ own v := fun hk => by
  obtain ⟨cur, hc⟩ := h.kind hk
  exact Blk.ne_ hb hc ht rfl
theorem RdV.not_own {w : World} {rb : Nat} {v u : Value} {S l : List Nat} {bad : Bool} (h : RdV w rb v S bad) (hs : SB w u l) : rb ∉ own u := by
  obtain ⟨v', hr, _, _⟩ := h
  exact hs.not_blk hr.b (by decide)
theorem RdV.cells {w : World} {rb : Nat} {v : Value} {S : List Nat} {bad : Bool} (h : RdV w rb v S bad) : ∃ A n c, n = S.length ∧ w.cell? ⟨rb, 0, none⟩ = some (.slice A n c) ∧ w.cell? ⟨rb, 1, none⟩ = some (.bool bad) ∧ rb < w.heap.size := by
  obtain ⟨v', hr, ho, A, n, c, rfl⟩ := h
  have q0 := hr.b.cell 0
  have q1 := hr.b.cell 1
  simp at q0 q1
  exact ⟨A, n, c, (RB_cap hr.r).1, q0, q1, hr.b.lt⟩
set_option maxRecDepth 20000 in
set_option maxHeartbeats 40000000 in
theorem Read_any {w : World} (hf : FW w) {v : Value} {B : List Nat} (hv : RB w v B) (h8 : ∀ b ∈ B, b < 256) (hlen : B.length ≤ 100000) :
    Calls Tryd.prog 19 #[v] w fun e w' => ReadR w w' B e ∧ Chg [] w w' := by
  obtain ⟨A0, c0, rfl⟩ := RE.form hv
  obtain ⟨W2, hW2⟩ : ∃ W2, W2 = (w.alloc (.cells (clc zCl zV) 34)).alloc (.cells #[.slice A0 B.length c0, .bool false] 77) := ⟨_, rfl⟩
  have hs2 : W2.heap.size = w.heap.size + 1 + 1 := by rw [hW2]; simp
  have hb2 : KB W2 w.heap.size zCl zV := by rw [hW2]; exact (Blk.new w 34 _).alloc _
  have hc2 : Chg [] w W2 := by rw [hW2]; exact ((Chg.refl [] w).alloc _).alloc _
  have hov : 0 < B.length → ∀ k ∈ own (.slice A0 B.length c0), k < w.heap.size := fun hp k hk => by
    obtain ⟨g, off, rfl⟩ := RE.addr hv hp
    have q := RE.cell ucl_len hv hp (j := 0) (by omega) rfl
    have hgl : g < w.heap.size := World.block_lt_of_cell? _ _ q
    simp [own, Value.ownBlock] at hk
    omega
  have hrd : RdV W2 (w.heap.size + 1) (.slice A0 B.length c0) B false := ⟨_, ⟨by
    rw [hW2]
    have := Blk.new (w.alloc (.cells (clc zCl zV) 34)) 77 #[.slice A0 B.length c0, .bool false]
    rwa [World.size_alloc] at this, hv.stay hc2, fun hp hk => by have := hov hp _ hk; omega⟩, fun k hk => hk, _, _, _, rfl⟩
  have HU := hide (hrd.upto h8 hlen (most := 255) (by omega))
  have HB2 := hide hb2
  have HC2 := hide hc2
  have HW2 := hide hW2
  have HS2 := hide hs2
  have HOV := hide hov
  have HF := hide hf
  have HOK := hide (st0_ok h8)
  have HLEN := hide hlen
  have hk255 := rdN_le 255 B
  have HE := hide (show stEnd B = stAll (st0 B) (fld (rdN 255 B)) from rfl)
  have HS0 := hide (show (st0 B).x = { zCl with k := rdN 255 B } ∧ (st0 B).S = rdS B ∧ (st0 B).bad = rdB 255 B false from ⟨rfl, rfl, rfl⟩)
  obtain ⟨s0, hs0⟩ : ∃ s0, s0 = st0 B := ⟨_, rfl⟩
  rw [← hs0] at HOK HE HS0
  generalize rdN 255 B = k0 at HU hk255 HE HS0
  have HFM := hide (fun f (h : f ∈ fld k0) => fld_mem h)
  have HOF := hide (fun W (h : Chg [] w W) => of_any (HF.out.stay h) (k := k0) (by omega))
  generalize fld k0 = F at HE HFM HOF
  have HFK := hide hk255
  have hwk : IntKind.u8.wrap (k0 : Int) = (k0 : Int) := by rw [IntKind.wrap_u8]; omega
  clear hf hv h8 hlen hb2 hc2 hW2 hs2 hov hrd hs0 hk255
  unfold ReadR
  obtain ⟨R, hR⟩ : ∃ R, R = readC B := ⟨_, rfl⟩
  obtain ⟨E, hE⟩ : ∃ E, E = readE B := ⟨_, rfl⟩
  rw [← hR, ← hE]
  have HRE := hide (And.intro hR hE)
  clear hR hE
  go_enter Tryd.func19, Tryd.ntmps19
  go_wp2_with (first | (refine wpList_alloc34 rfl rfl ?_; try simp only [World.size_alloc]; try go_simp))
  rw [← HW2.out]
  refine HU.out.mono ?_
  rintro e W3 ⟨rfl, hr3, hc3⟩
  obtain ⟨b2, h2⟩ : ∃ b, b = w.heap.size := ⟨_, rfl⟩
  obtain ⟨rb, h1⟩ : ∃ b, b = w.heap.size + 1 := ⟨_, rfl⟩
  have HR3 := hide (show RdV W3 rb (.slice A0 B.length c0) s0.S s0.bad from by rw [HS0.out.2.1, HS0.out.2.2, h1]; exact hr3)
  have HB3 := hide (show KB W3 b2 zCl zV from by rw [h2]; exact Blk.chg HB2.out hc3 (by simp only [List.mem_singleton]; omega))
  have HC3 := hide (HC2.out.trans hc3 (fun y hy => .inr (by obtain rfl := List.mem_singleton.1 hy; omega)))
  have HSZ := hide (show w.heap.size + 2 ≤ W3.heap.size from by have := hc3.size; have := HS2.out; omega)
  have h1' := h1
  rw [← h2] at h1'
  rw [← h1, ← h2]
  have HNE0 := hide (show rb = b2 + 1 ∧ b2 = w.heap.size from ⟨h1', h2⟩)
  obtain ⟨bx, h3⟩ : ∃ b, b = W3.heap.size := ⟨_, rfl⟩
  have HX3 := hide (show KB (W3.alloc (.cells (clc zCl zV) 34)) bx zCl zV from by rw [h3]; exact Blk.new W3 34 _)
  have HH3 := hide h3
  clear hr3 hc3 h1 h2 h1' h3 HB2 HC2 HU HW2 HS2
  go_wp2_with (first | (refine wpList_alloc34 rfl rfl ?_; try go_simp; rw [← HH3.out]) | (refine wpList_store34 (b := bx) (y := { zCl with k := k0 }) (u := zV) rfl _ _ rfl rfl rfl rfl HX3.out ?_; intro W4 h4 hc4; obtain ⟨q4, -, -, -, -, -, -, -, -, -, -, -, l4, -⟩ := KB.cells (x := { zCl with k := k0 }) (v := zV) h4))
  have hc34 : Chg [] W3 W4 := ((Chg.refl [] W3).alloc _).trans hc4 (fun y hy => .inr (by obtain rfl := List.mem_singleton.1 hy; have := HH3.out; omega))
  have HX4 := hide (show KB W4 bx s0.x zV from by rw [HS0.out.1]; exact h4)
  have HR4 := hide (HR3.out.chg hc34 List.not_mem_nil (fun _ _ _ => List.not_mem_nil))
  have HB4 := hide (show KB W4 b2 zCl zV from KB.stay HB3.out hc34)
  have HC4 := hide (HC3.out.stay hc34)
  have HSZ4 := hide (show W3.heap.size < W4.heap.size from by have := HX4.out.lt; have := HH3.out; omega)
  clear h4 hc4 hc34 HX3 HR3 HB3 HC3
  refine (HOF.out W4 HC4.out).mono ?_
  rintro e W5 ⟨rfl, rfl⟩
  have hci := chg_iter W4 (strB F)
  have HI5 := hide (Itr.new W4 F)
  have HX5 := hide (show KB (W4.iter (strB F) 0) bx s0.x zV from KB.stay HX4.out hci)
  have HR5 := hide (HR4.out.chg hci List.not_mem_nil (fun _ _ _ => List.not_mem_nil))
  have HB5 := hide (show KB (W4.iter (strB F) 0) b2 zCl zV from KB.stay HB4.out hci)
  have HC5 := hide (HC4.out.stay hci)
  clear hci q4 l4 HX4 HR4 HB4 HC4 hwk
  go_wp2_with fail
  obtain ⟨W6, hW6⟩ : ∃ W6, W6 = W4.iter (strB F) 0 := ⟨_, rfl⟩
  obtain ⟨bi, hbi⟩ : ∃ b, b = W4.heap.size := ⟨_, rfl⟩
  have HNE := hide (show b2 ≠ rb ∧ b2 ≠ bx ∧ b2 ≠ bi ∧ rb ≠ bx ∧ rb ≠ bi ∧ bx ≠ bi ∧ w.heap.size ≤ b2 ∧ w.heap.size ≤ rb ∧ w.heap.size ≤ bx ∧ w.heap.size ≤ bi from by
    have := HNE0.out
    have := HSZ.out
    have := HSZ4.out
    have := HH3.out
    omega)
  rw [← hW6] at HI5 HX5 HR5 HB5 HC5 ⊢
  rw [← hbi] at HI5 ⊢
  clear hW6 hbi HNE0 HSZ HSZ4 HH3
  go_loopw [] (fun wr => ∃ (j : Nat) (A : Option Addr) (n c : Nat), j ≤ F.length ∧ Hid (KB wr b2 zCl zV) ∧ Hid (KB wr bx (stAll s0 (F.take j)).x (.slice A n c)) ∧ Hid (SB wr (.slice A n c) (stAll s0 (F.take j)).x.l) ∧ Hid (∀ k ∈ own (.slice A n c), w.heap.size ≤ k) ∧ Hid (RdV wr rb (.slice A0 B.length c0) (stAll s0 (F.take j)).S (stAll s0 (F.take j)).bad) ∧ Hid (Itr wr bi F j) ∧ Hid (Chg [] w wr)) (fun wr => F.length - wr.iterPos bi)
  case atStart => exact ⟨0, none, 0, 0, by omega, HB5, HX5, hide (by show SB _ zV s0.x.l; rw [HS0.out.1]; exact SE.nil _ _ _ _), hide (fun _ h => (own_nil h).elim), HR5, HI5, HC5⟩
  case round =>
    obtain ⟨j, A, n, c, hj, k2, kx, ks, hn, kr, ki, kc⟩ := hrel
    by_cases hlt : j < F.length
    · have hlet := HFM.out _ (List.getElem_mem hlt)
      obtain ⟨W1, hnx, hi1, hc1⟩ := ki.out.next hlt (letter_lt hlet)
      have hbi := ks.out.not_itr ki.out
      have HST := hide (show stAll s0 (F.take (j + 1)) = stF (stAll s0 (F.take j)) F[j] from by rw [take_snoc hlt, stAll_snoc])
      have HOKs := hide (stAll_ok (F.take j) HOK.out)
      generalize stAll s0 (F.take j) = st at kx ks kr HST HOKs
      have K2 := hide (show KB W1 b2 zCl zV from Blk.chg k2.out hc1 (by simpa using HNE.out.2.2.1))
      have KX := hide (show KB W1 bx st.x (.slice A n c) from Blk.chg kx.out hc1 (by simpa using HNE.out.2.2.2.2.2.1))
      have KS := hide (show SB W1 (.slice A n c) st.x.l from ks.out.chg hc1 (fun k hk hk' => hbi (by obtain rfl := List.mem_singleton.1 hk'; exact hk)))
      have HSO := hide (show ∀ S' : List Nat, S'.length ≤ st.S.length → 0 < S'.length → ∀ k ∈ own (.slice A0 B.length c0), k < w.heap.size from fun S' h1 h2 => HOV.out (by have := HOKs.out.l; omega))
      have KR := hide (kr.out.chg hc1 (by simpa using HNE.out.2.2.2.2.1) (fun hp k hk hk' => by obtain rfl := List.mem_singleton.1 hk'; have := HSO.out _ (Nat.le_refl _) hp _ hk; have := HNE.out; omega))
      have KC := hide (kc.out.trans hc1 (fun y hy => .inr (by obtain rfl := List.mem_singleton.1 hy; exact HNE.out.2.2.2.2.2.2.2.2.2)))
      have KI := hide hi1
      have hm0 : wr.iterPos bi = j := ki.out.pos
      have cl := KX.out.lt
      have HN1 := hide (fun W (h : bx < W.heap.size) => number_any (w := W) h hlet)
      have HS8 := hide HOKs.out.b
      have HSL := hide (Nat.le_trans HOKs.out.l HLEN.out)
      generalize F[j] = f at hlet hnx HST HN1
      clear hi1 hc1 hbi k2 kx ks kr ki kc
      rcases hlet with rfl | rfl | rfl | rfl | rfl | rfl | rfl | rfl | rfl | rfl | rfl
      · simp only [numO, ptrO, reduceIte, Nat.reduceEqDiff, Option.isSome] at HN1

        go_wp2_with fail
        refine (HN1.out _ cl).mono ?_
        rintro e W9 ⟨rfl, rfl⟩

        have HSF := hide (show stF st 46 = st from by simp [stF])
        go_wp2_with fail

        go_roundw
        case rel => exact ⟨j + 1, A, n, c, by omega, K2, hide (by rw [HST.out, HSF.out]; exact KX.out), hide (by rw [HST.out, HSF.out]; exact KS.out), hn, hide (by rw [HST.out, HSF.out]; exact KR.out), KI, KC⟩
        case measure => rw [hm0, KI.out.pos]; omega
      · simp only [numO, ptrO, reduceIte, Nat.reduceEqDiff, Option.isSome] at HN1

        have HA := hide (KR.out.any HS8.out HSL.out)
        have hwi := i64_wrap (rdN_lt M64 HS8.out)
        have HSF := hide (show stF st 112 = stN st M64 { st.x with p := iw64 (rdN M64 st.S) } from by simp [stF])
        generalize rdN M64 st.S = N at HA hwi HSF

        go_wp2_with fail
        refine (HN1.out _ cl).mono ?_
        rintro e W9 ⟨rfl, rfl⟩

        go_wp2_with fail
        refine HA.out.mono ?_
        rintro e W3 ⟨rfl, hr3, hc3⟩
        have KR3 := hide hr3

        have K23 := hide (show KB W3 b2 zCl zV from Blk.chg K2.out hc3 (by simpa using HNE.out.1))
        have KX3 := hide (show KB W3 bx st.x (.slice A n c) from Blk.chg KX.out hc3 (by simpa using (Ne.symm HNE.out.2.2.2.1)))
        have KS3 := hide (show SB W3 (.slice A n c) st.x.l from KS.out.chg hc3 (fun k hk hk' => KR.out.not_own KS.out (by obtain rfl := List.mem_singleton.1 hk'; exact hk)))
        have KI3 := hide (KI.out.chg hc3 (by simpa using (Ne.symm HNE.out.2.2.2.2.1)))
        have KC3 := hide (KC.out.trans hc3 (fun y hy => .inr (by obtain rfl := List.mem_singleton.1 hy; exact HNE.out.2.2.2.2.2.2.2.1)))
        obtain ⟨x0, x1, x2, x3, x4, x5, x6, x7, x8, x9, x10, x11, xl, xf⟩ := KX3.out.cells
        clear hr3 hc3
        go_wp2_with fail

        have hs5 : Chg [bx] W3 (W3.setCell ⟨bx, 1, none⟩ (.int .i64 (iw64 N))) := (Chg.refl [bx] W3).setCell (p := ⟨bx, 1, none⟩) (.inl (by simp)) (.int .i64 (iw64 N))
        have K25 := hide (show KB (W3.setCell ⟨bx, 1, none⟩ (.int .i64 (iw64 N))) b2 zCl zV from Blk.chg K23.out hs5 (by simpa using HNE.out.2.1))
        have KX5 := hide (show KB (W3.setCell ⟨bx, 1, none⟩ (.int .i64 (iw64 N))) bx { st.x with p := iw64 N } (.slice A n c) from KX3.out.put 1 (.int .i64 (iw64 N)) rfl)
        have KS5 := hide (show SB (W3.setCell ⟨bx, 1, none⟩ (.int .i64 (iw64 N))) (.slice A n c) st.x.l from KS3.out.chg hs5 (fun k hk hk' => SB.not_call KS3.out KX3.out (by obtain rfl := List.mem_singleton.1 hk'; exact hk)))
        have KR5 := hide (show RdV (W3.setCell ⟨bx, 1, none⟩ (.int .i64 (iw64 N))) rb (.slice A0 B.length c0) (rdS st.S) (rdB M64 st.S st.bad) from KR3.out.chg hs5 (by simpa using HNE.out.2.2.2.1) (fun hp k hk hk' => by obtain rfl := List.mem_singleton.1 hk'; have := HSO.out _ (rdS_len _) hp _ hk; have := HNE.out; omega))
        have KI5 := hide (KI3.out.chg hs5 (by simpa using (Ne.symm HNE.out.2.2.2.2.2.1)))
        have KC5 := hide (KC3.out.trans hs5 (fun y hy => .inr (by obtain rfl := List.mem_singleton.1 hy; exact HNE.out.2.2.2.2.2.2.2.2.1)))

        go_roundw
        case rel => exact ⟨j + 1, A, n, c, by omega, K25, hide (by rw [HST.out, HSF.out]; exact KX5.out), hide (by rw [HST.out, HSF.out]; exact KS5.out), hn, hide (by rw [HST.out, HSF.out]; exact KR5.out), KI5, KC5⟩
        case measure => rw [hm0, KI5.out.pos]; omega
      · simp only [numO, ptrO, reduceIte, Nat.reduceEqDiff, Option.isSome] at HN1

        have HA := hide (KR.out.any HS8.out HSL.out)
        have hwi := i64_wrap (rdN_lt M64 HS8.out)
        have HSF := hide (show stF st 103 = stN st M64 { st.x with g := iw64 (rdN M64 st.S) } from by simp [stF])
        generalize rdN M64 st.S = N at HA hwi HSF

        go_wp2_with fail
        refine (HN1.out _ cl).mono ?_
        rintro e W9 ⟨rfl, rfl⟩

        go_wp2_with fail
        refine HA.out.mono ?_
        rintro e W3 ⟨rfl, hr3, hc3⟩
        have KR3 := hide hr3

        have K23 := hide (show KB W3 b2 zCl zV from Blk.chg K2.out hc3 (by simpa using HNE.out.1))
        have KX3 := hide (show KB W3 bx st.x (.slice A n c) from Blk.chg KX.out hc3 (by simpa using (Ne.symm HNE.out.2.2.2.1)))
        have KS3 := hide (show SB W3 (.slice A n c) st.x.l from KS.out.chg hc3 (fun k hk hk' => KR.out.not_own KS.out (by obtain rfl := List.mem_singleton.1 hk'; exact hk)))
        have KI3 := hide (KI.out.chg hc3 (by simpa using (Ne.symm HNE.out.2.2.2.2.1)))
        have KC3 := hide (KC.out.trans hc3 (fun y hy => .inr (by obtain rfl := List.mem_singleton.1 hy; exact HNE.out.2.2.2.2.2.2.2.1)))
        obtain ⟨x0, x1, x2, x3, x4, x5, x6, x7, x8, x9, x10, x11, xl, xf⟩ := KX3.out.cells
        clear hr3 hc3
        go_wp2_with fail

        have hs5 : Chg [bx] W3 (W3.setCell ⟨bx, 3, none⟩ (.int .i64 (iw64 N))) := (Chg.refl [bx] W3).setCell (p := ⟨bx, 3, none⟩) (.inl (by simp)) (.int .i64 (iw64 N))
        have K25 := hide (show KB (W3.setCell ⟨bx, 3, none⟩ (.int .i64 (iw64 N))) b2 zCl zV from Blk.chg K23.out hs5 (by simpa using HNE.out.2.1))
        have KX5 := hide (show KB (W3.setCell ⟨bx, 3, none⟩ (.int .i64 (iw64 N))) bx { st.x with g := iw64 N } (.slice A n c) from KX3.out.put 3 (.int .i64 (iw64 N)) rfl)
        have KS5 := hide (show SB (W3.setCell ⟨bx, 3, none⟩ (.int .i64 (iw64 N))) (.slice A n c) st.x.l from KS3.out.chg hs5 (fun k hk hk' => SB.not_call KS3.out KX3.out (by obtain rfl := List.mem_singleton.1 hk'; exact hk)))
        have KR5 := hide (show RdV (W3.setCell ⟨bx, 3, none⟩ (.int .i64 (iw64 N))) rb (.slice A0 B.length c0) (rdS st.S) (rdB M64 st.S st.bad) from KR3.out.chg hs5 (by simpa using HNE.out.2.2.2.1) (fun hp k hk hk' => by obtain rfl := List.mem_singleton.1 hk'; have := HSO.out _ (rdS_len _) hp _ hk; have := HNE.out; omega))
        have KI5 := hide (KI3.out.chg hs5 (by simpa using (Ne.symm HNE.out.2.2.2.2.2.1)))
        have KC5 := hide (KC3.out.trans hs5 (fun y hy => .inr (by obtain rfl := List.mem_singleton.1 hy; exact HNE.out.2.2.2.2.2.2.2.2.1)))

        go_roundw
        case rel => exact ⟨j + 1, A, n, c, by omega, K25, hide (by rw [HST.out, HSF.out]; exact KX5.out), hide (by rw [HST.out, HSF.out]; exact KS5.out), hn, hide (by rw [HST.out, HSF.out]; exact KR5.out), KI5, KC5⟩
        case measure => rw [hm0, KI5.out.pos]; omega
      · simp only [numO, ptrO, reduceIte, Nat.reduceEqDiff, Option.isSome] at HN1

        have HA := hide (KR.out.any HS8.out HSL.out)
        have hwi := i64_wrap (rdN_lt M64 HS8.out)
        have HSF := hide (show stF st 99 = stN st M64 { st.x with c := iw64 (rdN M64 st.S) } from by simp [stF])
        generalize rdN M64 st.S = N at HA hwi HSF

        go_wp2_with fail
        refine (HN1.out _ cl).mono ?_
        rintro e W9 ⟨rfl, rfl⟩

        go_wp2_with fail
        refine HA.out.mono ?_
        rintro e W3 ⟨rfl, hr3, hc3⟩
        have KR3 := hide hr3

        have K23 := hide (show KB W3 b2 zCl zV from Blk.chg K2.out hc3 (by simpa using HNE.out.1))
        have KX3 := hide (show KB W3 bx st.x (.slice A n c) from Blk.chg KX.out hc3 (by simpa using (Ne.symm HNE.out.2.2.2.1)))
        have KS3 := hide (show SB W3 (.slice A n c) st.x.l from KS.out.chg hc3 (fun k hk hk' => KR.out.not_own KS.out (by obtain rfl := List.mem_singleton.1 hk'; exact hk)))
        have KI3 := hide (KI.out.chg hc3 (by simpa using (Ne.symm HNE.out.2.2.2.2.1)))
        have KC3 := hide (KC.out.trans hc3 (fun y hy => .inr (by obtain rfl := List.mem_singleton.1 hy; exact HNE.out.2.2.2.2.2.2.2.1)))
        obtain ⟨x0, x1, x2, x3, x4, x5, x6, x7, x8, x9, x10, x11, xl, xf⟩ := KX3.out.cells
        clear hr3 hc3
        go_wp2_with fail

        have hs5 : Chg [bx] W3 (W3.setCell ⟨bx, 4, none⟩ (.int .i64 (iw64 N))) := (Chg.refl [bx] W3).setCell (p := ⟨bx, 4, none⟩) (.inl (by simp)) (.int .i64 (iw64 N))
        have K25 := hide (show KB (W3.setCell ⟨bx, 4, none⟩ (.int .i64 (iw64 N))) b2 zCl zV from Blk.chg K23.out hs5 (by simpa using HNE.out.2.1))
        have KX5 := hide (show KB (W3.setCell ⟨bx, 4, none⟩ (.int .i64 (iw64 N))) bx { st.x with c := iw64 N } (.slice A n c) from KX3.out.put 4 (.int .i64 (iw64 N)) rfl)
        have KS5 := hide (show SB (W3.setCell ⟨bx, 4, none⟩ (.int .i64 (iw64 N))) (.slice A n c) st.x.l from KS3.out.chg hs5 (fun k hk hk' => SB.not_call KS3.out KX3.out (by obtain rfl := List.mem_singleton.1 hk'; exact hk)))
        have KR5 := hide (show RdV (W3.setCell ⟨bx, 4, none⟩ (.int .i64 (iw64 N))) rb (.slice A0 B.length c0) (rdS st.S) (rdB M64 st.S st.bad) from KR3.out.chg hs5 (by simpa using HNE.out.2.2.2.1) (fun hp k hk hk' => by obtain rfl := List.mem_singleton.1 hk'; have := HSO.out _ (rdS_len _) hp _ hk; have := HNE.out; omega))
        have KI5 := hide (KI3.out.chg hs5 (by simpa using (Ne.symm HNE.out.2.2.2.2.2.1)))
        have KC5 := hide (KC3.out.trans hs5 (fun y hy => .inr (by obtain rfl := List.mem_singleton.1 hy; exact HNE.out.2.2.2.2.2.2.2.2.1)))

        go_roundw
        case rel => exact ⟨j + 1, A, n, c, by omega, K25, hide (by rw [HST.out, HSF.out]; exact KX5.out), hide (by rw [HST.out, HSF.out]; exact KS5.out), hn, hide (by rw [HST.out, HSF.out]; exact KR5.out), KI5, KC5⟩
        case measure => rw [hm0, KI5.out.pos]; omega
      · simp only [numO, ptrO, reduceIte, Nat.reduceEqDiff, Option.isSome] at HN1

        have HA := hide (KR.out.any HS8.out HSL.out)
        have hwi := i64_wrap (rdN_lt M64 HS8.out)
        have HSF := hide (show stF st 110 = stN st M64 { st.x with n := iw64 (rdN M64 st.S) } from by simp [stF])
        generalize rdN M64 st.S = N at HA hwi HSF

        go_wp2_with fail
        refine (HN1.out _ cl).mono ?_
        rintro e W9 ⟨rfl, rfl⟩

        go_wp2_with fail
        refine HA.out.mono ?_
        rintro e W3 ⟨rfl, hr3, hc3⟩
        have KR3 := hide hr3

        have K23 := hide (show KB W3 b2 zCl zV from Blk.chg K2.out hc3 (by simpa using HNE.out.1))
        have KX3 := hide (show KB W3 bx st.x (.slice A n c) from Blk.chg KX.out hc3 (by simpa using (Ne.symm HNE.out.2.2.2.1)))
        have KS3 := hide (show SB W3 (.slice A n c) st.x.l from KS.out.chg hc3 (fun k hk hk' => KR.out.not_own KS.out (by obtain rfl := List.mem_singleton.1 hk'; exact hk)))
        have KI3 := hide (KI.out.chg hc3 (by simpa using (Ne.symm HNE.out.2.2.2.2.1)))
        have KC3 := hide (KC.out.trans hc3 (fun y hy => .inr (by obtain rfl := List.mem_singleton.1 hy; exact HNE.out.2.2.2.2.2.2.2.1)))
        obtain ⟨x0, x1, x2, x3, x4, x5, x6, x7, x8, x9, x10, x11, xl, xf⟩ := KX3.out.cells
        clear hr3 hc3
        go_wp2_with fail

        have hs5 : Chg [bx] W3 (W3.setCell ⟨bx, 2, none⟩ (.int .i64 (iw64 N))) := (Chg.refl [bx] W3).setCell (p := ⟨bx, 2, none⟩) (.inl (by simp)) (.int .i64 (iw64 N))
        have K25 := hide (show KB (W3.setCell ⟨bx, 2, none⟩ (.int .i64 (iw64 N))) b2 zCl zV from Blk.chg K23.out hs5 (by simpa using HNE.out.2.1))
        have KX5 := hide (show KB (W3.setCell ⟨bx, 2, none⟩ (.int .i64 (iw64 N))) bx { st.x with n := iw64 N } (.slice A n c) from KX3.out.put 2 (.int .i64 (iw64 N)) rfl)
        have KS5 := hide (show SB (W3.setCell ⟨bx, 2, none⟩ (.int .i64 (iw64 N))) (.slice A n c) st.x.l from KS3.out.chg hs5 (fun k hk hk' => SB.not_call KS3.out KX3.out (by obtain rfl := List.mem_singleton.1 hk'; exact hk)))
        have KR5 := hide (show RdV (W3.setCell ⟨bx, 2, none⟩ (.int .i64 (iw64 N))) rb (.slice A0 B.length c0) (rdS st.S) (rdB M64 st.S st.bad) from KR3.out.chg hs5 (by simpa using HNE.out.2.2.2.1) (fun hp k hk hk' => by obtain rfl := List.mem_singleton.1 hk'; have := HSO.out _ (rdS_len _) hp _ hk; have := HNE.out; omega))
        have KI5 := hide (KI3.out.chg hs5 (by simpa using (Ne.symm HNE.out.2.2.2.2.2.1)))
        have KC5 := hide (KC3.out.trans hs5 (fun y hy => .inr (by obtain rfl := List.mem_singleton.1 hy; exact HNE.out.2.2.2.2.2.2.2.2.1)))

        go_roundw
        case rel => exact ⟨j + 1, A, n, c, by omega, K25, hide (by rw [HST.out, HSF.out]; exact KX5.out), hide (by rw [HST.out, HSF.out]; exact KS5.out), hn, hide (by rw [HST.out, HSF.out]; exact KR5.out), KI5, KC5⟩
        case measure => rw [hm0, KI5.out.pos]; omega
      · simp only [numO, ptrO, reduceIte, Nat.reduceEqDiff, Option.isSome] at HN1

        have HA := hide (KR.out.any HS8.out HSL.out)
        have hwi := i64_wrap (rdN_lt M64 HS8.out)
        have HSF := hide (show stF st 97 = stN st M64 { st.x with a := iw64 (rdN M64 st.S) } from by simp [stF])
        generalize rdN M64 st.S = N at HA hwi HSF

        go_wp2_with fail
        refine (HN1.out _ cl).mono ?_
        rintro e W9 ⟨rfl, rfl⟩

        go_wp2_with fail
        refine HA.out.mono ?_
        rintro e W3 ⟨rfl, hr3, hc3⟩
        have KR3 := hide hr3

        have K23 := hide (show KB W3 b2 zCl zV from Blk.chg K2.out hc3 (by simpa using HNE.out.1))
        have KX3 := hide (show KB W3 bx st.x (.slice A n c) from Blk.chg KX.out hc3 (by simpa using (Ne.symm HNE.out.2.2.2.1)))
        have KS3 := hide (show SB W3 (.slice A n c) st.x.l from KS.out.chg hc3 (fun k hk hk' => KR.out.not_own KS.out (by obtain rfl := List.mem_singleton.1 hk'; exact hk)))
        have KI3 := hide (KI.out.chg hc3 (by simpa using (Ne.symm HNE.out.2.2.2.2.1)))
        have KC3 := hide (KC.out.trans hc3 (fun y hy => .inr (by obtain rfl := List.mem_singleton.1 hy; exact HNE.out.2.2.2.2.2.2.2.1)))
        obtain ⟨x0, x1, x2, x3, x4, x5, x6, x7, x8, x9, x10, x11, xl, xf⟩ := KX3.out.cells
        clear hr3 hc3
        go_wp2_with fail

        have hs5 : Chg [bx] W3 (W3.setCell ⟨bx, 5, none⟩ (.int .i64 (iw64 N))) := (Chg.refl [bx] W3).setCell (p := ⟨bx, 5, none⟩) (.inl (by simp)) (.int .i64 (iw64 N))
        have K25 := hide (show KB (W3.setCell ⟨bx, 5, none⟩ (.int .i64 (iw64 N))) b2 zCl zV from Blk.chg K23.out hs5 (by simpa using HNE.out.2.1))
        have KX5 := hide (show KB (W3.setCell ⟨bx, 5, none⟩ (.int .i64 (iw64 N))) bx { st.x with a := iw64 N } (.slice A n c) from KX3.out.put 5 (.int .i64 (iw64 N)) rfl)
        have KS5 := hide (show SB (W3.setCell ⟨bx, 5, none⟩ (.int .i64 (iw64 N))) (.slice A n c) st.x.l from KS3.out.chg hs5 (fun k hk hk' => SB.not_call KS3.out KX3.out (by obtain rfl := List.mem_singleton.1 hk'; exact hk)))
        have KR5 := hide (show RdV (W3.setCell ⟨bx, 5, none⟩ (.int .i64 (iw64 N))) rb (.slice A0 B.length c0) (rdS st.S) (rdB M64 st.S st.bad) from KR3.out.chg hs5 (by simpa using HNE.out.2.2.2.1) (fun hp k hk hk' => by obtain rfl := List.mem_singleton.1 hk'; have := HSO.out _ (rdS_len _) hp _ hk; have := HNE.out; omega))
        have KI5 := hide (KI3.out.chg hs5 (by simpa using (Ne.symm HNE.out.2.2.2.2.2.1)))
        have KC5 := hide (KC3.out.trans hs5 (fun y hy => .inr (by obtain rfl := List.mem_singleton.1 hy; exact HNE.out.2.2.2.2.2.2.2.2.1)))

        go_roundw
        case rel => exact ⟨j + 1, A, n, c, by omega, K25, hide (by rw [HST.out, HSF.out]; exact KX5.out), hide (by rw [HST.out, HSF.out]; exact KS5.out), hn, hide (by rw [HST.out, HSF.out]; exact KR5.out), KI5, KC5⟩
        case measure => rw [hm0, KI5.out.pos]; omega
      · simp only [numO, ptrO, reduceIte, Nat.reduceEqDiff, Option.isSome] at HN1

        have HA := hide (KR.out.any HS8.out HSL.out)
        have hwi := i64_wrap (rdN_lt M64 HS8.out)
        have HSF := hide (show stF st 115 = stN st M64 { st.x with s := iw64 (rdN M64 st.S) } from by simp [stF])
        generalize rdN M64 st.S = N at HA hwi HSF

        go_wp2_with fail
        refine (HN1.out _ cl).mono ?_
        rintro e W9 ⟨rfl, rfl⟩

        go_wp2_with fail
        refine HA.out.mono ?_
        rintro e W3 ⟨rfl, hr3, hc3⟩
        have KR3 := hide hr3

        have K23 := hide (show KB W3 b2 zCl zV from Blk.chg K2.out hc3 (by simpa using HNE.out.1))
        have KX3 := hide (show KB W3 bx st.x (.slice A n c) from Blk.chg KX.out hc3 (by simpa using (Ne.symm HNE.out.2.2.2.1)))
        have KS3 := hide (show SB W3 (.slice A n c) st.x.l from KS.out.chg hc3 (fun k hk hk' => KR.out.not_own KS.out (by obtain rfl := List.mem_singleton.1 hk'; exact hk)))
        have KI3 := hide (KI.out.chg hc3 (by simpa using (Ne.symm HNE.out.2.2.2.2.1)))
        have KC3 := hide (KC.out.trans hc3 (fun y hy => .inr (by obtain rfl := List.mem_singleton.1 hy; exact HNE.out.2.2.2.2.2.2.2.1)))
        obtain ⟨x0, x1, x2, x3, x4, x5, x6, x7, x8, x9, x10, x11, xl, xf⟩ := KX3.out.cells
        clear hr3 hc3
        go_wp2_with fail

        have hs5 : Chg [bx] W3 (W3.setCell ⟨bx, 6, none⟩ (.int .i64 (iw64 N))) := (Chg.refl [bx] W3).setCell (p := ⟨bx, 6, none⟩) (.inl (by simp)) (.int .i64 (iw64 N))
        have K25 := hide (show KB (W3.setCell ⟨bx, 6, none⟩ (.int .i64 (iw64 N))) b2 zCl zV from Blk.chg K23.out hs5 (by simpa using HNE.out.2.1))
        have KX5 := hide (show KB (W3.setCell ⟨bx, 6, none⟩ (.int .i64 (iw64 N))) bx { st.x with s := iw64 N } (.slice A n c) from KX3.out.put 6 (.int .i64 (iw64 N)) rfl)
        have KS5 := hide (show SB (W3.setCell ⟨bx, 6, none⟩ (.int .i64 (iw64 N))) (.slice A n c) st.x.l from KS3.out.chg hs5 (fun k hk hk' => SB.not_call KS3.out KX3.out (by obtain rfl := List.mem_singleton.1 hk'; exact hk)))
        have KR5 := hide (show RdV (W3.setCell ⟨bx, 6, none⟩ (.int .i64 (iw64 N))) rb (.slice A0 B.length c0) (rdS st.S) (rdB M64 st.S st.bad) from KR3.out.chg hs5 (by simpa using HNE.out.2.2.2.1) (fun hp k hk hk' => by obtain rfl := List.mem_singleton.1 hk'; have := HSO.out _ (rdS_len _) hp _ hk; have := HNE.out; omega))
        have KI5 := hide (KI3.out.chg hs5 (by simpa using (Ne.symm HNE.out.2.2.2.2.2.1)))
        have KC5 := hide (KC3.out.trans hs5 (fun y hy => .inr (by obtain rfl := List.mem_singleton.1 hy; exact HNE.out.2.2.2.2.2.2.2.2.1)))

        go_roundw
        case rel => exact ⟨j + 1, A, n, c, by omega, K25, hide (by rw [HST.out, HSF.out]; exact KX5.out), hide (by rw [HST.out, HSF.out]; exact KS5.out), hn, hide (by rw [HST.out, HSF.out]; exact KR5.out), KI5, KC5⟩
        case measure => rw [hm0, KI5.out.pos]; omega
      · simp only [numO, ptrO, reduceIte, Nat.reduceEqDiff, Option.isSome] at HN1

        have HA := hide (KR.out.upto HS8.out HSL.out (most := 255) (by omega))
        have hN := rdN_le 255 st.S
        have HSF := hide (show stF st 114 = stN st 255 { st.x with r := rdN 255 st.S } from by simp [stF])
        generalize rdN 255 st.S = N at HA hN HSF
        have hwi : IntKind.u8.wrap (N : Int) = (N : Int) := by rw [IntKind.wrap_u8]; omega
        clear hN

        go_wp2_with fail
        refine (HN1.out _ cl).mono ?_
        rintro e W9 ⟨rfl, rfl⟩

        go_wp2_with fail
        refine HA.out.mono ?_
        rintro e W3 ⟨rfl, hr3, hc3⟩
        have KR3 := hide hr3

        have K23 := hide (show KB W3 b2 zCl zV from Blk.chg K2.out hc3 (by simpa using HNE.out.1))
        have KX3 := hide (show KB W3 bx st.x (.slice A n c) from Blk.chg KX.out hc3 (by simpa using (Ne.symm HNE.out.2.2.2.1)))
        have KS3 := hide (show SB W3 (.slice A n c) st.x.l from KS.out.chg hc3 (fun k hk hk' => KR.out.not_own KS.out (by obtain rfl := List.mem_singleton.1 hk'; exact hk)))
        have KI3 := hide (KI.out.chg hc3 (by simpa using (Ne.symm HNE.out.2.2.2.2.1)))
        have KC3 := hide (KC.out.trans hc3 (fun y hy => .inr (by obtain rfl := List.mem_singleton.1 hy; exact HNE.out.2.2.2.2.2.2.2.1)))
        obtain ⟨x0, x1, x2, x3, x4, x5, x6, x7, x8, x9, x10, x11, xl, xf⟩ := KX3.out.cells
        clear hr3 hc3
        go_wp2_with fail

        have hs5 : Chg [bx] W3 (W3.setCell ⟨bx, 7, none⟩ (.int .u8 (N : Nat))) := (Chg.refl [bx] W3).setCell (p := ⟨bx, 7, none⟩) (.inl (by simp)) (.int .u8 (N : Nat))
        have K25 := hide (show KB (W3.setCell ⟨bx, 7, none⟩ (.int .u8 (N : Nat))) b2 zCl zV from Blk.chg K23.out hs5 (by simpa using HNE.out.2.1))
        have KX5 := hide (show KB (W3.setCell ⟨bx, 7, none⟩ (.int .u8 (N : Nat))) bx { st.x with r := N } (.slice A n c) from KX3.out.put 7 (.int .u8 (N : Nat)) rfl)
        have KS5 := hide (show SB (W3.setCell ⟨bx, 7, none⟩ (.int .u8 (N : Nat))) (.slice A n c) st.x.l from KS3.out.chg hs5 (fun k hk hk' => SB.not_call KS3.out KX3.out (by obtain rfl := List.mem_singleton.1 hk'; exact hk)))
        have KR5 := hide (show RdV (W3.setCell ⟨bx, 7, none⟩ (.int .u8 (N : Nat))) rb (.slice A0 B.length c0) (rdS st.S) (rdB 255 st.S st.bad) from KR3.out.chg hs5 (by simpa using HNE.out.2.2.2.1) (fun hp k hk hk' => by obtain rfl := List.mem_singleton.1 hk'; have := HSO.out _ (rdS_len _) hp _ hk; have := HNE.out; omega))
        have KI5 := hide (KI3.out.chg hs5 (by simpa using (Ne.symm HNE.out.2.2.2.2.2.1)))
        have KC5 := hide (KC3.out.trans hs5 (fun y hy => .inr (by obtain rfl := List.mem_singleton.1 hy; exact HNE.out.2.2.2.2.2.2.2.2.1)))

        go_roundw
        case rel => exact ⟨j + 1, A, n, c, by omega, K25, hide (by rw [HST.out, HSF.out]; exact KX5.out), hide (by rw [HST.out, HSF.out]; exact KS5.out), hn, hide (by rw [HST.out, HSF.out]; exact KR5.out), KI5, KC5⟩
        case measure => rw [hm0, KI5.out.pos]; omega
      · simp only [numO, ptrO, reduceIte, Nat.reduceEqDiff, Option.isSome] at HN1

        have HA := hide (KR.out.upto HS8.out HSL.out (most := 255) (by omega))
        have hN := rdN_le 255 st.S
        have hN2 := rdN_le 255 (rdS st.S)
        have HS82 := hide (fun b (h : b ∈ rdS st.S) => HS8.out b (rdS_mem h))
        have HSL2 := hide (Nat.le_trans (rdS_len st.S) HSL.out)
        have HSF := hide (show stF st 111 = stN (stN st 255 { st.x with ok := rdN 255 st.S }) 255 { st.x with ok := rdN 255 st.S, om := rdN 255 (rdS st.S) } from by simp [stF])
        obtain ⟨N2, hN2e⟩ : ∃ N2, rdN 255 (rdS st.S) = N2 := ⟨_, rfl⟩
        rw [hN2e] at hN2 HSF
        have HN2 := hide hN2e
        clear hN2e
        generalize rdN 255 st.S = N at HA hN HSF
        have hwi : IntKind.u8.wrap (N : Int) = (N : Int) := by rw [IntKind.wrap_u8]; omega
        have hwi2 : IntKind.u8.wrap (N2 : Int) = (N2 : Int) := by rw [IntKind.wrap_u8]; omega
        clear hN hN2

        go_wp2_with fail
        refine (HN1.out _ cl).mono ?_
        rintro e W9 ⟨rfl, rfl⟩

        go_wp2_with fail
        refine HA.out.mono ?_
        rintro e W3 ⟨rfl, hr3, hc3⟩
        have KR3 := hide hr3

        have K23 := hide (show KB W3 b2 zCl zV from Blk.chg K2.out hc3 (by simpa using HNE.out.1))
        have KX3 := hide (show KB W3 bx st.x (.slice A n c) from Blk.chg KX.out hc3 (by simpa using (Ne.symm HNE.out.2.2.2.1)))
        have KS3 := hide (show SB W3 (.slice A n c) st.x.l from KS.out.chg hc3 (fun k hk hk' => KR.out.not_own KS.out (by obtain rfl := List.mem_singleton.1 hk'; exact hk)))
        have KI3 := hide (KI.out.chg hc3 (by simpa using (Ne.symm HNE.out.2.2.2.2.1)))
        have KC3 := hide (KC.out.trans hc3 (fun y hy => .inr (by obtain rfl := List.mem_singleton.1 hy; exact HNE.out.2.2.2.2.2.2.2.1)))
        obtain ⟨x0, x1, x2, x3, x4, x5, x6, x7, x8, x9, x10, x11, xl, xf⟩ := KX3.out.cells
        clear hr3 hc3
        go_wp2_with fail

        have hs5 : Chg [bx] W3 (W3.setCell ⟨bx, 8, none⟩ (.int .u8 (N : Nat))) := (Chg.refl [bx] W3).setCell (p := ⟨bx, 8, none⟩) (.inl (by simp)) (.int .u8 (N : Nat))
        have K25 := hide (show KB (W3.setCell ⟨bx, 8, none⟩ (.int .u8 (N : Nat))) b2 zCl zV from Blk.chg K23.out hs5 (by simpa using HNE.out.2.1))
        have KX5 := hide (show KB (W3.setCell ⟨bx, 8, none⟩ (.int .u8 (N : Nat))) bx { st.x with ok := N } (.slice A n c) from KX3.out.put 8 (.int .u8 (N : Nat)) rfl)
        have KS5 := hide (show SB (W3.setCell ⟨bx, 8, none⟩ (.int .u8 (N : Nat))) (.slice A n c) st.x.l from KS3.out.chg hs5 (fun k hk hk' => SB.not_call KS3.out KX3.out (by obtain rfl := List.mem_singleton.1 hk'; exact hk)))
        have KR5 := hide (show RdV (W3.setCell ⟨bx, 8, none⟩ (.int .u8 (N : Nat))) rb (.slice A0 B.length c0) (rdS st.S) (rdB 255 st.S st.bad) from KR3.out.chg hs5 (by simpa using HNE.out.2.2.2.1) (fun hp k hk hk' => by obtain rfl := List.mem_singleton.1 hk'; have := HSO.out _ (rdS_len _) hp _ hk; have := HNE.out; omega))
        have KI5 := hide (KI3.out.chg hs5 (by simpa using (Ne.symm HNE.out.2.2.2.2.2.1)))
        have KC5 := hide (KC3.out.trans hs5 (fun y hy => .inr (by obtain rfl := List.mem_singleton.1 hy; exact HNE.out.2.2.2.2.2.2.2.2.1)))

        have HA2 := KR5.out.upto HS82.out HSL2.out (most := 255) (by omega)
        rw [HN2.out] at HA2
        clear x0 x1 x2 x3 x4 x5 x6 x7 x8 x9 x10 x11 xl xf
        refine HA2.mono ?_
        rintro e W6 ⟨rfl, hr6, hc6⟩
        have KR6 := hide hr6

        have K26 := hide (show KB W6 b2 zCl zV from Blk.chg K25.out hc6 (by simpa using HNE.out.1))
        have KX6 := hide (show KB W6 bx { st.x with ok := N } (.slice A n c) from Blk.chg KX5.out hc6 (by simpa using (Ne.symm HNE.out.2.2.2.1)))
        have KS6 := hide (show SB W6 (.slice A n c) st.x.l from KS5.out.chg hc6 (fun k hk hk' => KR5.out.not_own KS5.out (by obtain rfl := List.mem_singleton.1 hk'; exact hk)))
        have KI6 := hide (KI5.out.chg hc6 (by simpa using (Ne.symm HNE.out.2.2.2.2.1)))
        have KC6 := hide (KC5.out.trans hc6 (fun y hy => .inr (by obtain rfl := List.mem_singleton.1 hy; exact HNE.out.2.2.2.2.2.2.2.1)))
        obtain ⟨x0, x1, x2, x3, x4, x5, x6, x7, x8, x9, x10, x11, xl, xf⟩ := KX6.out.cells
        clear hr6 hc6 hs5 HA2
        go_wp2_with fail

        have hs7 : Chg [bx] W6 (W6.setCell ⟨bx, 9, none⟩ (.int .u8 (N2 : Nat))) := (Chg.refl [bx] W6).setCell (p := ⟨bx, 9, none⟩) (.inl (by simp)) (.int .u8 (N2 : Nat))
        have K27 := hide (show KB (W6.setCell ⟨bx, 9, none⟩ (.int .u8 (N2 : Nat))) b2 zCl zV from Blk.chg K26.out hs7 (by simpa using HNE.out.2.1))
        have KX7 := hide (show KB (W6.setCell ⟨bx, 9, none⟩ (.int .u8 (N2 : Nat))) bx { st.x with ok := N, om := N2 } (.slice A n c) from KX6.out.put 9 (.int .u8 (N2 : Nat)) rfl)
        have KS7 := hide (show SB (W6.setCell ⟨bx, 9, none⟩ (.int .u8 (N2 : Nat))) (.slice A n c) st.x.l from KS6.out.chg hs7 (fun k hk hk' => SB.not_call KS6.out KX6.out (by obtain rfl := List.mem_singleton.1 hk'; exact hk)))
        have KR7 := hide (show RdV (W6.setCell ⟨bx, 9, none⟩ (.int .u8 (N2 : Nat))) rb (.slice A0 B.length c0) (rdS (rdS st.S)) (rdB 255 (rdS st.S) (rdB 255 st.S st.bad)) from KR6.out.chg hs7 (by simpa using HNE.out.2.2.2.1) (fun hp k hk hk' => by obtain rfl := List.mem_singleton.1 hk'; have := HSO.out _ (Nat.le_trans (rdS_len _) (rdS_len _)) hp _ hk; have := HNE.out; omega))
        have KI7 := hide (KI6.out.chg hs7 (by simpa using (Ne.symm HNE.out.2.2.2.2.2.1)))
        have KC7 := hide (KC6.out.trans hs7 (fun y hy => .inr (by obtain rfl := List.mem_singleton.1 hy; exact HNE.out.2.2.2.2.2.2.2.2.1)))

        go_roundw
        case rel => exact ⟨j + 1, A, n, c, by omega, K27, hide (by rw [HST.out, HSF.out]; exact KX7.out), hide (by rw [HST.out, HSF.out]; exact KS7.out), hn, hide (by rw [HST.out, HSF.out]; exact KR7.out), KI7, KC7⟩
        case measure => rw [hm0, KI7.out.pos]; omega
      · simp only [numO, ptrO, reduceIte, Nat.reduceEqDiff, Option.isSome] at HN1

        have HA := hide (KR.out.any HS8.out HSL.out)
        have HSF := hide (show stF st 104 = stN st M64 { st.x with h := rdN M64 st.S } from by simp [stF])
        generalize rdN M64 st.S = N at HA HSF

        go_wp2_with fail
        refine (HN1.out _ cl).mono ?_
        rintro e W9 ⟨rfl, rfl⟩

        go_wp2_with fail
        refine HA.out.mono ?_
        rintro e W3 ⟨rfl, hr3, hc3⟩
        have KR3 := hide hr3

        have K23 := hide (show KB W3 b2 zCl zV from Blk.chg K2.out hc3 (by simpa using HNE.out.1))
        have KX3 := hide (show KB W3 bx st.x (.slice A n c) from Blk.chg KX.out hc3 (by simpa using (Ne.symm HNE.out.2.2.2.1)))
        have KS3 := hide (show SB W3 (.slice A n c) st.x.l from KS.out.chg hc3 (fun k hk hk' => KR.out.not_own KS.out (by obtain rfl := List.mem_singleton.1 hk'; exact hk)))
        have KI3 := hide (KI.out.chg hc3 (by simpa using (Ne.symm HNE.out.2.2.2.2.1)))
        have KC3 := hide (KC.out.trans hc3 (fun y hy => .inr (by obtain rfl := List.mem_singleton.1 hy; exact HNE.out.2.2.2.2.2.2.2.1)))
        obtain ⟨x0, x1, x2, x3, x4, x5, x6, x7, x8, x9, x10, x11, xl, xf⟩ := KX3.out.cells
        clear hr3 hc3
        go_wp2_with fail

        have hs5 : Chg [bx] W3 (W3.setCell ⟨bx, 10, none⟩ (.int .u64 (N : Nat))) := (Chg.refl [bx] W3).setCell (p := ⟨bx, 10, none⟩) (.inl (by simp)) (.int .u64 (N : Nat))
        have K25 := hide (show KB (W3.setCell ⟨bx, 10, none⟩ (.int .u64 (N : Nat))) b2 zCl zV from Blk.chg K23.out hs5 (by simpa using HNE.out.2.1))
        have KX5 := hide (show KB (W3.setCell ⟨bx, 10, none⟩ (.int .u64 (N : Nat))) bx { st.x with h := N } (.slice A n c) from KX3.out.put 10 (.int .u64 (N : Nat)) rfl)
        have KS5 := hide (show SB (W3.setCell ⟨bx, 10, none⟩ (.int .u64 (N : Nat))) (.slice A n c) st.x.l from KS3.out.chg hs5 (fun k hk hk' => SB.not_call KS3.out KX3.out (by obtain rfl := List.mem_singleton.1 hk'; exact hk)))
        have KR5 := hide (show RdV (W3.setCell ⟨bx, 10, none⟩ (.int .u64 (N : Nat))) rb (.slice A0 B.length c0) (rdS st.S) (rdB M64 st.S st.bad) from KR3.out.chg hs5 (by simpa using HNE.out.2.2.2.1) (fun hp k hk hk' => by obtain rfl := List.mem_singleton.1 hk'; have := HSO.out _ (rdS_len _) hp _ hk; have := HNE.out; omega))
        have KI5 := hide (KI3.out.chg hs5 (by simpa using (Ne.symm HNE.out.2.2.2.2.2.1)))
        have KC5 := hide (KC3.out.trans hs5 (fun y hy => .inr (by obtain rfl := List.mem_singleton.1 hy; exact HNE.out.2.2.2.2.2.2.2.2.1)))

        go_roundw
        case rel => exact ⟨j + 1, A, n, c, by omega, K25, hide (by rw [HST.out, HSF.out]; exact KX5.out), hide (by rw [HST.out, HSF.out]; exact KS5.out), hn, hide (by rw [HST.out, HSF.out]; exact KR5.out), KI5, KC5⟩
        case measure => rw [hm0, KI5.out.pos]; omega
      · simp only [numO, ptrO, reduceIte, Nat.reduceEqDiff, Option.isSome] at HN1

        have HA := hide (KR.out.bytes HS8.out HSL.out)
        have HSF := hide (show stF st 98 = ⟨{ st.x with l := bsL st.S }, bsS st.S, bsB st.S st.bad⟩ from by simp [stF])

        go_wp2_with fail
        refine (HN1.out _ cl).mono ?_
        rintro e W9 ⟨rfl, rfl⟩

        go_wp2_with fail
        refine HA.out.mono ?_
        rintro e W3 ⟨⟨A9, n9, k9, rfl, hs9, hn9⟩, hr3, hc3⟩
        have KR3 := hide hr3
        have HS9 := hide hs9
        have HN9 := hide hn9

        have K23 := hide (show KB W3 b2 zCl zV from Blk.chg K2.out hc3 (by simpa using HNE.out.1))
        have KX3 := hide (show KB W3 bx st.x (.slice A n c) from Blk.chg KX.out hc3 (by simpa using (Ne.symm HNE.out.2.2.2.1)))
        have KS3 := hide (show SB W3 (.slice A n c) st.x.l from KS.out.chg hc3 (fun k hk hk' => KR.out.not_own KS.out (by obtain rfl := List.mem_singleton.1 hk'; exact hk)))
        have KI3 := hide (KI.out.chg hc3 (by simpa using (Ne.symm HNE.out.2.2.2.2.1)))
        have KC3 := hide (KC.out.trans hc3 (fun y hy => .inr (by obtain rfl := List.mem_singleton.1 hy; exact HNE.out.2.2.2.2.2.2.2.1)))
        obtain ⟨x0, x1, x2, x3, x4, x5, x6, x7, x8, x9, x10, x11, xl, xf⟩ := KX3.out.cells
        clear hr3 hc3 hs9 hn9
        go_wp2_with fail

        have hs5 : Chg [bx] W3 (W3.setCell ⟨bx, 11, none⟩ (.slice A9 n9 k9)) := (Chg.refl [bx] W3).setCell (p := ⟨bx, 11, none⟩) (.inl (by simp)) (.slice A9 n9 k9)
        have K25 := hide (show KB (W3.setCell ⟨bx, 11, none⟩ (.slice A9 n9 k9)) b2 zCl zV from Blk.chg K23.out hs5 (by simpa using HNE.out.2.1))
        have KX5 := hide (show KB (W3.setCell ⟨bx, 11, none⟩ (.slice A9 n9 k9)) bx { st.x with l := bsL st.S } (.slice A9 n9 k9) from KX3.out.put 11 (.slice A9 n9 k9) rfl)
        have KS5 := hide (show SB (W3.setCell ⟨bx, 11, none⟩ (.slice A9 n9 k9)) (.slice A9 n9 k9) (bsL st.S) from HS9.out.chg hs5 (fun k hk hk' => SB.not_call HS9.out KX3.out (by obtain rfl := List.mem_singleton.1 hk'; exact hk)))
        have KR5 := hide (show RdV (W3.setCell ⟨bx, 11, none⟩ (.slice A9 n9 k9)) rb (.slice A0 B.length c0) (bsS st.S) (bsB st.S st.bad) from KR3.out.chg hs5 (by simpa using HNE.out.2.2.2.1) (fun hp k hk hk' => by obtain rfl := List.mem_singleton.1 hk'; have := HSO.out _ (bsS_len _) hp _ hk; have := HNE.out; omega))
        have KI5 := hide (KI3.out.chg hs5 (by simpa using (Ne.symm HNE.out.2.2.2.2.2.1)))
        have KC5 := hide (KC3.out.trans hs5 (fun y hy => .inr (by obtain rfl := List.mem_singleton.1 hy; exact HNE.out.2.2.2.2.2.2.2.2.1)))

        go_roundw
        case rel => exact ⟨j + 1, A9, n9, k9, by omega, K25, hide (by rw [HST.out, HSF.out]; exact KX5.out), hide (by rw [HST.out, HSF.out]; exact KS5.out), hide (fun k hk => Nat.le_trans KC.out.size (HN9.out k hk)), hide (by rw [HST.out, HSF.out]; exact KR5.out), KI5, KC5⟩
        case measure => rw [hm0, KI5.out.pos]; omega
    · obtain rfl : j = F.length := by omega
      rw [List.take_length] at kx ks kr
      have hnx := ki.out.done
      have hxok := (stAll_ok F HOK.out).x
      rw [← HE.out] at kx ks kr hxok
      obtain ⟨A', n', c', hn', g0, g1, gl⟩ := kr.out.cells
      have cxl := kx.out.lt
      have HM := hide (MayK_any (HF.out.stay kc.out) (x := (stEnd B).x) hxok ks.out.re)
      have hOK : okR B = (!(stEnd B).bad && (stEnd B).S == [] && mayK (stEnd B).x) := rfl
      have hRX : okR B = true → readC B = (stEnd B).x := fun h => by unfold readC; rw [h]; rfl
      have HRX := hide hRX
      clear hRX hxok kr
      generalize (stEnd B).x = x0 at kx ks HM hOK HRX
      generalize (stEnd B).S = S0 at hn' hOK
      generalize (stEnd B).bad = bad0 at g1 hOK
      subst hn'
      cases bad0 with
      | true =>
        have hok : okR B = false := by rw [hOK]; rfl
        obtain rfl : R = zCl := by rw [HRE.out.1]; unfold readC; rw [hok]; rfl
        obtain rfl : E = 5 := by rw [HRE.out.2]; unfold readE; rw [hok]; rfl
        clear hOK hok HM
        go_wp2_with (first | (refine wpList_store34 (b := b2) (y := zCl) (u := zV) rfl _ _ rfl rfl rfl rfl k2.out ?_; intro W7 h7 hc7))
        refine bodyPost_ret (v := .tuple #[.agg (clc zCl zV), .int .i64 5]) (results_two (p := 2) (q := 3) rfl _ rfl h7) rfl ⟨⟨none, 0, 0, rfl, SE.nil _ _ _ _, fun _ h => (own_nil h).elim⟩, ?_⟩
        exact kc.out.trans hc7 (fun y hy => .inr (by obtain rfl := List.mem_singleton.1 hy; exact HNE.out.2.2.2.2.2.2.1))
      | false =>
        by_cases hS : S0 = []
        · subst hS
          have hOK2 : okR B = mayK x0 := by rw [hOK]; simp
          clear hOK
          cases hm : mayK x0 with
          | false =>
            have hok : okR B = false := by rw [hOK2, hm]
            obtain rfl : R = zCl := by rw [HRE.out.1]; unfold readC; rw [hok]; rfl
            obtain rfl : E = 5 := by rw [HRE.out.2]; unfold readE; rw [hok]; rfl
            rw [hm] at HM
            clear hOK2 hok hm
            go_wp2_with (first | (refine wpList_load34W (b := bx) _ rfl rfl ?_ kx.out ?_; (focus (simp [Region.wanted, yielded]; done))))
            refine HM.out.mono ?_
            rintro e W4 ⟨rfl, hc4⟩
            go_wp2_with (first | (refine wpList_store34 (b := b2) (y := zCl) (u := zV) rfl _ _ rfl rfl rfl rfl (KB.stay k2.out hc4) ?_; intro W7 h7 hc7))
            refine bodyPost_ret (v := .tuple #[.agg (clc zCl zV), .int .i64 5]) (results_two (p := 2) (q := 3) rfl _ rfl h7) rfl ⟨⟨none, 0, 0, rfl, SE.nil _ _ _ _, fun _ h => (own_nil h).elim⟩, ?_⟩
            exact (kc.out.stay hc4).trans hc7 (fun y hy => .inr (by obtain rfl := List.mem_singleton.1 hy; exact HNE.out.2.2.2.2.2.2.1))
          | true =>
            have hok : okR B = true := by rw [hOK2, hm]
            obtain rfl : R = x0 := by rw [HRE.out.1]; exact HRX.out hok
            obtain rfl : E = 0 := by rw [HRE.out.2]; unfold readE; rw [hok]; rfl
            rw [hm] at HM
            clear hOK2 hok hm
            go_wp2_with (first | (refine wpList_load34W (b := bx) _ rfl rfl ?_ kx.out ?_; (focus (simp [Region.wanted, yielded]; done))))
            refine HM.out.mono ?_
            rintro e W4 ⟨rfl, hc4⟩
            have HX4 := hide (KB.stay kx.out hc4)
            go_wp2_with (first | (refine wpList_load34 (b := bx) rfl _ rfl rfl HX4.out ?_) | (refine wpList_store34 (b := b2) (y := R) (u := .slice A n c) rfl _ _ rfl rfl rfl rfl (KB.stay k2.out hc4) ?_; intro W7 h7 hc7))
            refine bodyPost_ret (v := .tuple #[.agg (clc R (.slice A n c)), .int .i64 0]) (results_two (p := 2) (q := 3) rfl _ rfl h7) rfl ⟨⟨A, n, c, rfl, ?_, hn.out⟩, ?_⟩
            · refine SE.chg (ks.out.stay hc4) hc7 (fun k hk hk' => SB.not_call (ks.out.stay hc4) (KB.stay k2.out hc4) (by obtain rfl := List.mem_singleton.1 hk'; exact hk))
            · exact (kc.out.stay hc4).trans hc7 (fun y hy => .inr (by obtain rfl := List.mem_singleton.1 hy; exact HNE.out.2.2.2.2.2.2.1))
        · have hok : okR B = false := by
            rw [hOK]
            cases S0 with
            | nil => exact absurd rfl hS
            | cons a l => rfl
          obtain rfl : R = zCl := by rw [HRE.out.1]; unfold readC; rw [hok]; rfl
          obtain rfl : E = 5 := by rw [HRE.out.2]; unfold readE; rw [hok]; rfl
          have hpos : 0 < S0.length := by
            cases S0 with
            | nil => exact absurd rfl hS
            | cons a l => simp
          have hpI : (0 : Int) < (S0.length : Int) := by omega
          have d1 : decide ((0 : Int) < (S0.length : Int)) = true := decide_eq_true hpI
          have d2 : decide (0 < S0.length) = true := decide_eq_true hpos
          have hnS : ¬ S0 = [] := hS
          clear hOK hok HM
          go_wp2_with (first | (refine wpList_store34 (b := b2) (y := zCl) (u := zV) rfl _ _ rfl rfl rfl rfl k2.out ?_; intro W7 h7 hc7))
          refine bodyPost_ret (v := .tuple #[.agg (clc zCl zV), .int .i64 5]) (results_two (p := 2) (q := 3) rfl _ rfl h7) rfl ⟨⟨none, 0, 0, rfl, SE.nil _ _ _ _, fun _ h => (own_nil h).elim⟩, ?_⟩
          exact kc.out.trans hc7 (fun y hy => .inr (by obtain rfl := List.mem_singleton.1 hy; exact HNE.out.2.2.2.2.2.2.1))
end Go.Proofs.YtinlpjgjjplceaaDoor
