import Derived.Test.YtmgjknlpcnakiaaArB
namespace Go.Proofs.Ytmgjknlpcnakiaa

/-! ## What the laws ask, plain -/
theorem mayB_iff {page count : Int} : mayB page count = true ↔ 0 ≤ page ∧ 1 ≤ count ∧ count ≤ 1024 ∧ page ≤ 1024 - count := by simp [mayB]
theorem rgB_iff {g : Int} : rgB g = true ↔ 1 ≤ g ∧ g ≤ 3 := by simp [rgB]
/-- a Map that was answered OK -/
theorem map_ok {l : List Rn} (h : Sp l) {page count g : Int} (he : mapE l page count g = 0) :
    mayB page count = true ∧ rgB g = true ∧ (∀ q, page ≤ q → q < page + count → rt l q = 0) ∧ mapR l page count g = withL l page count g ∧ (withL l page count g).length ≤ 32 ∧ Sp (withL l page count g) ∧ ∀ q, rt (withL l page count g) q = if page ≤ q ∧ q < page + count then g else rt l q := by
  unfold mapE at he
  unfold mapR
  by_cases h1 : mayB page count = false ∨ rgB g = false
  · rw [if_pos h1] at he; omega
  rw [if_neg h1] at he
  rw [if_neg h1]
  by_cases h2 : 0 < cntL l page count
  · rw [if_pos h2] at he; omega
  rw [if_neg h2] at he
  rw [if_neg h2]
  have hm : mayB page count = true := by simpa using fun e => h1 (.inl e)
  have hg : rgB g = true := by simpa using fun e => h1 (.inr e)
  have hm' := mayB_iff.1 hm
  have hg' := rgB_iff.1 hg
  unfold setE at he
  unfold setR
  by_cases h3 : 32 < (withL l page count g).length
  · rw [if_pos h3] at he; omega
  rw [if_neg h3]
  refine ⟨hm, hg, fun q a b => Classical.byContradiction fun hn => h2 ((cnt_pos h.nm (by omega)).2 ⟨q, a, b, hn⟩), rfl, by omega, h.with_ hm (by omega) (by omega), (with_spec h.nm hm'.1 hm'.2.1).2⟩
theorem law_back {l : List Rn} (h : Sp l) {page count g : Int} (he : mapE l page count g = 0) :
    mdE (mapR l page count g) page count = 0 ∧ unE (mapR l page count g) page count = 0 ∧ unR (mapR l page count g) page count = l ∧ mdE l page 1 = 7 := by
  obtain ⟨hm, hg, h0, hR, hl, hS, hrt⟩ := map_ok h he
  rw [hR]
  have hm' := mayB_iff.1 hm
  have hg' := rgB_iff.1 hg
  obtain ⟨w1, w2⟩ := with_spec (g := 0) hS.nm hm'.1 hm'.2.1
  have e : withL (withL l page count g) page count 0 = l := nm_ext w1 h.nm fun q => by
    rw [w2, hrt]
    by_cases hq : page ≤ q ∧ q < page + count
    · rw [if_pos hq, h0 q hq.1 hq.2]
    · rw [if_neg hq, if_neg hq]
  refine ⟨?_, ?_, ?_, ?_⟩
  · unfold mdE
    rw [if_neg (by simp [hm]), if_neg fun hlt => ?_]
    obtain ⟨q, a, b, hz⟩ := (cnt_lt hS.nm (by omega)).1 hlt
    rw [hrt, if_pos ⟨a, b⟩] at hz
    omega
  · unfold unE setE
    rw [if_neg (by simp [hm]), e, if_neg (by have := h.len; omega)]
  · unfold unR setR
    rw [if_neg (by simp [hm]), e, if_neg (by have := h.len; omega)]
  · unfold mdE
    rw [if_neg (by simp [mayB]; omega), if_pos ((cnt_lt h.nm (by omega)).2 ⟨page, Int.le_refl _, by omega, h0 page (Int.le_refl _) (by omega)⟩)]
theorem law_either {l : List Rn} (h : Sp l) {p c g p' c' g' : Int} (e1 : mapE l p c g = 0) (e2 : mapE (mapR l p c g) p' c' g' = 0) (e3 : mapE l p' c' g' = 0) (e4 : mapE (mapR l p' c' g') p c g = 0) :
    mapR (mapR l p c g) p' c' g' = mapR (mapR l p' c' g') p c g := by
  obtain ⟨hm, hg, h0, hR, hl, hS, hrt⟩ := map_ok h e1
  obtain ⟨hm', hg', h0', hR', hl', hS', hrt'⟩ := map_ok h e3
  rw [hR] at e2 ⊢
  rw [hR'] at e4 ⊢
  obtain ⟨_, _, k0, kR, _, kS, krt⟩ := map_ok hS e2
  obtain ⟨_, _, k0', kR', _, kS', krt'⟩ := map_ok hS' e4
  rw [kR, kR']
  have hgg := rgB_iff.1 hg
  refine nm_ext kS.nm kS'.nm fun q => ?_
  rw [krt, krt', hrt, hrt']
  by_cases ha : p ≤ q ∧ q < p + c
  · by_cases hb : p' ≤ q ∧ q < p' + c'
    · have := k0 q hb.1 hb.2
      rw [hrt, if_pos ha] at this
      omega
    · rw [if_neg hb, if_pos ha, if_pos ha]
  · rw [if_neg ha, if_neg ha]
theorem law_hole1 {page count g : Int} (he : mapE [] page count g = 0) : mapR [] page count g = [⟨page, count, g⟩] ∧ mayB page count = true ∧ rgB g = true := by
  obtain ⟨hm, hg, h0, hR, hl, hS, hrt⟩ := map_ok Sp.nil he
  have hm' := mayB_iff.1 hm
  have hg' := rgB_iff.1 hg
  refine ⟨?_, hm, hg⟩
  rw [hR]
  show putL [] _ = _
  exact putL_nil (by show ¬ (count < 1 ∨ g = 0); omega)
theorem law_hole2 {page count g at_ many : Int} (hm : mayB page count = true) (hg : rgB g = true) (h1 : page < at_) (h2 : 1 ≤ many) (h3 : at_ + many < page + count) :
    unE [⟨page, count, g⟩] at_ many = 0 ∧ unR [⟨page, count, g⟩] at_ many = [⟨page, at_ - page, g⟩, ⟨at_ + many, page + count - at_ - many, g⟩] := by
  have hm' := mayB_iff.1 hm
  have hg' := rgB_iff.1 hg
  have hn : Nm 0 0 [⟨page, count, g⟩] := ⟨hm'.1, hm'.2.1, by show g ≠ 0; omega, fun _ => by show g ≠ 0; omega, trivial⟩
  obtain ⟨w1, w2⟩ := with_spec (page := at_) (count := many) (g := 0) hn (by omega) h2
  have e : withL [⟨page, count, g⟩] at_ many 0 = [⟨page, at_ - page, g⟩, ⟨at_ + many, page + count - at_ - many, g⟩] := by
    refine nm_ext w1 ⟨hm'.1, ?_, ?_, fun _ => ?_, ?_, ?_, ?_, fun hx => ?_, trivial⟩ fun q => ?_
    · show 1 ≤ at_ - page; omega
    · show g ≠ 0; omega
    · show g ≠ 0; omega
    · show page + (at_ - page) ≤ at_ + many; omega
    · show 1 ≤ page + count - at_ - many; omega
    · show g ≠ 0; omega
    · have : at_ + many = page + (at_ - page) := hx
      omega
    · rw [w2]
      show _ = (if page ≤ q ∧ q < page + (at_ - page) then g else if at_ + many ≤ q ∧ q < at_ + many + (page + count - at_ - many) then g else 0)
      show (if at_ ≤ q ∧ q < at_ + many then 0 else if page ≤ q ∧ q < page + count then g else 0) = _
      by_cases a1 : at_ ≤ q ∧ q < at_ + many
      · rw [if_pos a1, if_neg (by omega), if_neg (by omega)]
      · rw [if_neg a1]
        by_cases a2 : page ≤ q ∧ q < page + count
        · rw [if_pos a2]
          by_cases a3 : page ≤ q ∧ q < page + (at_ - page)
          · rw [if_pos a3]
          · rw [if_neg a3, if_pos (by omega)]
        · rw [if_neg a2, if_neg (by omega), if_neg (by omega)]
  have hm2 : mayB at_ many = true := mayB_iff.2 (by omega)
  unfold unE unR setE setR
  rw [e]
  simp [hm2]
theorem law_hole3 {page count g at_ many o : Int} (hm : mayB page count = true) (hg : rgB g = true) (h1 : page < at_) (h2 : 1 ≤ many) (h3 : at_ + many < page + count) (hne : o ≠ g) (he : prE [⟨page, count, g⟩] at_ many o = 0) :
    prR [⟨page, count, g⟩] at_ many o = [⟨page, at_ - page, g⟩, ⟨at_, many, o⟩, ⟨at_ + many, page + count - at_ - many, g⟩] ∧ rgB o = true := by
  have hm' := mayB_iff.1 hm
  have hg' := rgB_iff.1 hg
  have hn : Nm 0 0 [⟨page, count, g⟩] := ⟨hm'.1, hm'.2.1, by show g ≠ 0; omega, fun _ => by show g ≠ 0; omega, trivial⟩
  unfold prE at he
  unfold prR
  by_cases r1 : rgB o = false
  · rw [if_pos r1] at he; omega
  rw [if_neg r1] at he ⊢
  have ho := rgB_iff.1 (by simpa using r1)
  by_cases r2 : mdE [⟨page, count, g⟩] at_ many ≠ 0
  · rw [if_pos r2] at he; exact absurd he r2
  rw [if_neg r2] at he ⊢
  obtain ⟨w1, w2⟩ := with_spec (page := at_) (count := many) (g := o) hn (by omega) h2
  have e : withL [⟨page, count, g⟩] at_ many o = [⟨page, at_ - page, g⟩, ⟨at_, many, o⟩, ⟨at_ + many, page + count - at_ - many, g⟩] := by
    refine nm_ext w1 ⟨hm'.1, ?_, ?_, fun _ => ?_, ?_, h2, ?_, fun _ => hne, ?_, ?_, ?_, fun _ => Ne.symm hne, trivial⟩ fun q => ?_
    · show 1 ≤ at_ - page; omega
    · show g ≠ 0; omega
    · show g ≠ 0; omega
    · show page + (at_ - page) ≤ at_; omega
    · show o ≠ 0; omega
    · show at_ + many ≤ at_ + many; omega
    · show 1 ≤ page + count - at_ - many; omega
    · show g ≠ 0; omega
    · rw [w2]
      show (if at_ ≤ q ∧ q < at_ + many then o else if page ≤ q ∧ q < page + count then g else 0) = (if page ≤ q ∧ q < page + (at_ - page) then g else if at_ ≤ q ∧ q < at_ + many then o else if at_ + many ≤ q ∧ q < at_ + many + (page + count - at_ - many) then g else 0)
      by_cases a1 : at_ ≤ q ∧ q < at_ + many
      · rw [if_pos a1, if_neg (by omega), if_pos a1]
      · rw [if_neg a1, if_neg a1]
        by_cases a2 : page ≤ q ∧ q < page + count
        · rw [if_pos a2]
          by_cases a3 : page ≤ q ∧ q < page + (at_ - page)
          · rw [if_pos a3]
          · rw [if_neg a3, if_pos (by omega)]
        · rw [if_neg a2, if_neg (by omega), if_neg (by omega)]
  refine ⟨?_, by simpa using r1⟩
  unfold setR
  rw [e]
  simp
end Go.Proofs.Ytmgjknlpcnakiaa
