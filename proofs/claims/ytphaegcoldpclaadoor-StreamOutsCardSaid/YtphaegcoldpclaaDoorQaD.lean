import Derived.Test.YtphaegcoldpclaaDoorQaC
set_option linter.unusedSimpArgs false
set_option linter.unusedVariables false
set_option maxRecDepth 100000
namespace Go.Proofs.YtphaegcoldpclaaDoor
open Go Go.Fx Go.Proofs Go.Pl

theorem depR_pos {ds : List Int} {t : Tc} (hd : ∀ x ∈ ds, 1 ≤ x ∧ x ≤ 8) : 1 ≤ depR ds t ∧ depR ds t ≤ 9 := by
  unfold depR
  split
  · omega
  · cases hg : ds[t.par.toNat]? with
    | none => simp
    | some x => have := hd x (List.mem_of_getElem? hg); simp; omega
set_option maxHeartbeats 4000000 in
theorem rDepth_spec (vs : Value) (ts : List Tb) (ds : List Int) (i : Nat) (t : Tb) (A : HProp) (hvc : vs.oneCell' = true) (h : SV A vs ts) (hi : ts[i]? = some t) (hd : ∀ x ∈ ds, 1 ≤ x ∧ x ≤ 8)
    (ht : t.par < (i : Int)) (hpd : ∀ (j : Nat) (p : Tb), j < i → ts[j]? = some p → p.par < (j : Int) ∧ ds[j]? = some (depR ds p.c)) :
    FSpec Tryd.prog 42 [.agg #[vs], .int .i64 i] [A] Unit (fun _ => True) (fun _ => .int .i64 (depR ds t.c)) (fun _ => [A]) := by
  obtain ⟨hvw, htab, hlen, _⟩ := h
  have hil : i < ts.length := (List.getElem?_eq_some_iff.1 hi).1
  have hlm : (ts.map tbV).length = ts.length := by simp
  have hn1 : 0 < (ts.map tbV).length := by omega
  refine spec_intro [] _ Tryd.func42 rfl Tryd.ntmps42 (by rfl) (fun w0 R => ?_)
  refine ok_learn (VwIn.slice (VwIn.here hvw)) ?_
  rintro ⟨pv, cvv, rfl⟩
  refine ok_learn (VwIn.base (VwIn.here hvw) (by intro e; rw [e] at hn1; simp at hn1)) ?_
  rintro ⟨bu, ou, rfl⟩
  repeat' (first | (refine go_Y ?_; intros) | (refine gs_Y ?_ ?_ <;> (intro hgd; try (simp only [Bool.not_true, Bool.not_false] at hgd))) | (refine gc_Y ?_ ?_ <;> intro _) | fail)
  rename_i b2
  refine ok_map (L' := [pts b2 (.cells [.slice (some ⟨bu, ou, none⟩) (ts.map tbV).length cvv].toArray 24), A] ++ R) entD ?_
  refine ok_loop' (γ := Nat × Nat) (fun g ρ L => g.1 ≤ i ∧ 1 ≤ g.2 ∧ (∃ p : Tb, ts[g.1]? = some p ∧ p.par < (g.1 : Int) ∧ (g.2 : Int) + depR ds p.c = 1 + depR ds t.c) ∧
      Knows ρ [(1, .int .i64 g.1), (2, .pointer (some ⟨b2, 0, none⟩)), (5, .int .i64 g.2)] ∧
      L = [pts b2 (.cells [.slice (some ⟨bu, ou, none⟩) (ts.map tbV).length cvv].toArray 24), A] ++ R) (fun g => g.1)
    (i, 1) ⟨by simp, by simp, ⟨t, hi, ht, by simp⟩, ⟨rfl, rfl, rfl, trivial⟩, rfl⟩ ?_
  rintro ⟨j, n⟩ ρ L ⟨hj, hn, ⟨p, hp, hpj, hs⟩, hk, rfl⟩
  dsimp only at hj hn hp hpj hs hk ⊢
  refine ok_regs hk ?_
  have b1 := depR_pos (t := t.c) hd
  have b3 := depR_pos (t := p.c) hd
  have hnb : n ≤ 9 := by omega
  have hx : (ts.map tbV)[j]? = some (tbV p) := by rw [List.getElem?_map, hp]; rfl
  have hnj : j < (ts.map tbV).length := by omega
  cases v1 : decide ((0 : Int) ≤ p.par) with
  | false =>
    have he : depR ds p.c = 1 := by unfold depR; rw [if_pos (by have := of_decide_eq_false v1; show p.par < 0; omega)]
    have hr : depR ds t.c = (n : Int) := by omega
    rw [hr]
    obtain ⟨pn, pcols, ⟨pcv, hpcv⟩, pkey, pref, ppar⟩ := p
    dsimp only [tbV] at hx v1
    repeat' (first | (refine go_Y ?_; intros) | (refine gs_Y ?_ ?_ <;> (intro hgd; try (simp only [Bool.not_true, Bool.not_false] at hgd))) | (refine gc_Y ?_ ?_ <;> intro _) | fail)
    (refine rt_Y (y := ()) (hrs := Tryd.results42) (hv := ?_) (hφ := ?_))
    · rfl
    · trivial
  | true =>
    obtain ⟨m, hm⟩ : ∃ m : Nat, p.par = m := ⟨p.par.toNat, by have := of_decide_eq_true v1; omega⟩
    have hmj : m < j := by omega
    have hq : ts[m]? = some (ts[m]'(by omega)) := List.getElem?_eq_getElem _
    obtain ⟨hq1, hq2⟩ := hpd m _ (by omega) hq
    have he : depR ds p.c = depR ds (ts[m]'(by omega)).c + 1 := by
      have e : p.c.par = (m : Int) := hm
      rw [show depR ds p.c = (ds[p.c.par.toNat]?).getD 0 + 1 by unfold depR; rw [if_neg (by omega)], e, Int.toNat_natCast, hq2]; rfl
    obtain ⟨pn, pcols, ⟨pcv, hpcv⟩, pkey, pref, ppar⟩ := p
    dsimp only [tbV] at hx v1 hm
    subst hm
    repeat' (first | (refine go_Y ?_; intros) | (refine gs_Y ?_ ?_ <;> (intro hgd; try (simp only [Bool.not_true, Bool.not_false] at hgd))) | (refine gc_Y ?_ ?_ <;> intro _) | fail)
    refine cont_map (L' := [pts b2 (.cells [.slice (some ⟨bu, ou, none⟩) (ts.map tbV).length cvv].toArray 24), A] ++ R) entD ?_
    refine cont_back (m, n + 1) ⟨by dsimp only; omega, by dsimp only; omega, ⟨_, hq, hq1, by dsimp only; omega⟩, ⟨rfl, rfl, rfl, trivial⟩, rfl⟩ (by show m < j; omega)
end Go.Proofs.YtphaegcoldpclaaDoor
