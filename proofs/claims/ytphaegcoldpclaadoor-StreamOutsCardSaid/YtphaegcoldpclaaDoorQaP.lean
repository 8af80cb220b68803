import Derived.Test.YtphaegcoldpclaaDoorQaB
set_option linter.unusedVariables false
namespace Go.Proofs.YtphaegcoldpclaaDoor
open Go Go.Pl

def belongsR (ahead : Sc) (t : Tc) : Bool :=
  if t.ref = -1 ∨ t.par = -1 then decide (t.ref = t.par)
  else if t.ref < 0 ∨ (t.cols.length : Int) ≤ t.ref ∨ t.ref = t.key ∨ t.par < 0 ∨ (ahead.length : Int) ≤ t.par then false
  else decide ((colAt t.cols t.ref).kind = (colAt (tabAt ahead t.par).cols (tabAt ahead t.par).key).kind)
def depR (ds : List Int) (t : Tc) : Int := if t.par < 0 then 1 else (ds[t.par.toNat]?).getD 0 + 1
theorem colsR_iff {l : List Co} {key : Int} : colsR l key = true ↔ ((l.any fun c => decide (c.kind < 1) || decide (5 < c.kind)) = false ∧ ¬ (l.length < 1 ∨ 8 < l.length ∨ namedS (l.map (·.name)) = false ∨ hasC l key = false ∨ (colAt l key).null = true)) := by
  have e1 : (l.all okC = true ∧ (l.map (·.name)).Nodup) ↔ ((l.any fun c => decide (c.kind < 1) || decide (5 < c.kind)) = false ∧ namedS (l.map (·.name)) = true) := by
    unfold namedS
    rw [Bool.and_eq_true, decide_eq_true_eq, List.all_eq_true, List.any_eq_false, List.all_map, List.all_eq_true]
    constructor
    · rintro ⟨h1, h2⟩
      refine ⟨fun c hc => ?_, fun c hc => ?_, h2⟩
      · have := h1 c hc
        simp only [okC, Bool.and_eq_true, Bool.not_eq_true', decide_eq_false_iff_not] at this
        simp only [Bool.or_eq_true, decide_eq_true_eq]; omega
      · have := h1 c hc
        simp only [okC, Bool.and_eq_true] at this
        exact this.1
    · rintro ⟨h1, h2, h3⟩
      refine ⟨fun c hc => ?_, h3⟩
      have a := h1 c hc
      have b := h2 c hc
      simp only [Bool.or_eq_true, decide_eq_true_eq] at a
      simp only [okC, Bool.and_eq_true, Bool.not_eq_true', decide_eq_false_iff_not]
      exact ⟨b, by omega, by omega⟩
  unfold colsR
  simp only [Bool.and_eq_true, decide_eq_true_eq, Bool.not_eq_true', not_or, hasC, Bool.and_eq_false_iff, decide_eq_false_iff_not]
  rw [e1]
  constructor
  · rintro ⟨⟨a, b⟩, c, d, e, f, g⟩
    exact ⟨a, by omega, by omega, by simp [b], by simp [e, f], by simp [g]⟩
  · rintro ⟨a, b, c, d, e, f⟩
    simp only [not_or, Int.not_lt, Classical.not_not] at e
    exact ⟨⟨a, by simpa using d⟩, by omega, by omega, by omega, by omega, by simpa using f⟩
theorem tableS_ref (ahead : Sc) (ds : List Int) (t : Tc) (hd : ∀ x ∈ ds, 1 ≤ x ∧ x ≤ 8) :
    tableS ahead ds t = if colsR t.cols t.key = true ∧ belongsR ahead t = true ∧ depR ds t ≤ 8 then some (depR ds t) else none := by
  by_cases hc : colsR t.cols t.key = true
  · obtain ⟨h1, h2⟩ := colsR_iff.1 hc
    by_cases h3 : t.ref = -1 ∧ t.par = -1
    · rw [tS_c h1 h2 h3]
      have hb : belongsR ahead t = true := by unfold belongsR; rw [if_pos (.inl h3.1)]; simp [h3.1, h3.2]
      have hp : depR ds t = 1 := by unfold depR; rw [if_pos (by omega)]
      rw [if_pos ⟨hc, hb, by omega⟩, hp]
    · by_cases h4 : hasC t.cols t.ref = false ∨ t.ref = t.key ∨ t.par < 0 ∨ (ahead.length : Int) ≤ t.par
      · rw [tS_d h3 h4]
        have hb : belongsR ahead t = false := by
          unfold belongsR
          split
          · rename_i h5
            simp only [decide_eq_false_iff_not]
            rcases h5 with h5 | h5 <;> omega
          · rw [if_pos]
            rcases h4 with h4 | h4
            · simp only [hasC, Bool.and_eq_false_iff, decide_eq_false_iff_not] at h4
              rcases h4 with h4 | h4
              · exact .inl (by omega)
              · exact .inr (.inl (by omega))
            · exact .inr (.inr h4)
        rw [if_neg (by rw [hb]; simp)]
      · rw [tS_e h1 h2 h3 h4]
        simp only [not_or, hasC, Bool.not_eq_false, Bool.and_eq_true, decide_eq_true_eq] at h4
        obtain ⟨h5, h6, h7, h8⟩ := h4
        have hp : depR ds t = (ds[t.par.toNat]?).getD 0 + 1 := by unfold depR; rw [if_neg (by omega)]
        have hb : belongsR ahead t = decide ((colAt t.cols t.ref).kind = (colAt (tabAt ahead t.par).cols (tabAt ahead t.par).key).kind) := by
          unfold belongsR; rw [if_neg (by omega), if_neg (by omega)]
        rw [hp, hb]
        simp only [hc, decide_eq_true_eq, true_and]
        have : ((colAt (tabAt ahead t.par).cols (tabAt ahead t.par).key).kind = (colAt t.cols t.ref).kind) ↔ ((colAt t.cols t.ref).kind = (colAt (tabAt ahead t.par).cols (tabAt ahead t.par).key).kind) := ⟨Eq.symm, Eq.symm⟩
        simp only [this]
  · rw [if_neg (fun h => hc h.1)]
    by_cases h1 : (t.cols.any fun c => decide (c.kind < 1) || decide (5 < c.kind)) = true
    · exact tS_a h1
    · exact tS_b (Classical.byContradiction fun h2 => hc (colsR_iff.2 ⟨by simpa using h1, h2⟩))
end Go.Proofs.YtphaegcoldpclaaDoor
