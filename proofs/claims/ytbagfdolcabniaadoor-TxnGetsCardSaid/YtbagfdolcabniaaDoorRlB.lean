/- The library's clones of rows, of columns, of tables; rel.clone. -/
import Derived.Test.YtbagfdolcabniaaDoorRlA
-- @DEFS Y
set_option linter.unusedSimpArgs false
set_option linter.unusedVariables false
set_option maxRecDepth 100000
namespace Go.Proofs.YtbagfdolcabniaaDoor
open Go Go.Fx Go.Proofs Go.Pl

theorem vw_none {A : HProp} {n len cap : Nat} {xs : List (List Value)} (v : Vw A n (.slice none len cap) xs) {L : List HProp} (h : Frag) (s : SatL (A :: L) h) : xs = [] := by
  obtain ⟨h1, _, _, _, _, hA, _⟩ := s
  obtain ⟨_, p, c, e, _, hp, _⟩ := v h1 hA
  simp only [Value.slice.injEq] at e
  exact hp e.1.symm
theorem cloneV_spec (u : Value) (A : HProp) (l : List Vl) (hu : Vw A 4 u (l.map valV)) (hl : l.length ≤ 1000000) :
    FSpec Tryd.prog 57 [u] [A] { v : Value // v.oneCell' = true } (fun _ => True) (fun y => y.1) (fun y => [row 31 4 y.1 (l.map valV), A]) := by
  have hlm : (l.map valV).length = l.length := by simp
  refine spec_intro [] _ Tryd.func57 rfl Tryd.ntmps57 (by rfl) (fun w0 R => ?_)
  refine ok_learn (VwIn.slice (VwIn.here hu)) ?_
  rintro ⟨pu, cu, rfl⟩
  cases pu with
  | none =>
    refine ok_learn (vw_none hu) ?_
    intro hn
    repeat' (first | (refine go_Y ?_; intros) | (refine gs_Y ?_ ?_ <;> (intro hgd; try (simp only [Bool.not_true, Bool.not_false] at hgd))) | (refine gc_Y ?_ ?_ <;> intro _) | fail)
    refine cont_map (fun _ h => nilRow (e := 31) (n := 4) h) ?_
    rw [hn]
    (refine rt_Y (y := ⟨.slice none 0 0, rfl⟩) (hrs := Tryd.results57) (hv := ?_) (hφ := ?_))
    · rfl
    · trivial
  | some a =>
    repeat' (first | (refine go_Y ?_; intros) | (refine gs_Y ?_ ?_ <;> (intro hgd; try (simp only [Bool.not_true, Bool.not_false] at hgd))) | (refine gc_Y ?_ ?_ <;> intro _) | fail)
    rename_i v1 _ v2 hv2
    (refine rt_Y (y := ⟨v2, hv2⟩) (hrs := Tryd.results57) (hv := ?_) (hφ := ?_))
    · rfl
    · trivial
theorem cloneC_spec (u : Value) (A : HProp) (l : List Co) (hu : Vw A 3 u (l.map coV)) (hl : l.length ≤ 1000000) :
    FSpec Tryd.prog 95 [u] [A] { v : Value // v.oneCell' = true } (fun _ => True) (fun y => y.1) (fun y => [row 150 3 y.1 (l.map coV), A]) := by
  have hlm : (l.map coV).length = l.length := by simp
  refine spec_intro [] _ Tryd.func95 rfl Tryd.ntmps95 (by rfl) (fun w0 R => ?_)
  refine ok_learn (VwIn.slice (VwIn.here hu)) ?_
  rintro ⟨pu, cu, rfl⟩
  cases pu with
  | none =>
    refine ok_learn (vw_none hu) ?_
    intro hn
    repeat' (first | (refine go_Y ?_; intros) | (refine gs_Y ?_ ?_ <;> (intro hgd; try (simp only [Bool.not_true, Bool.not_false] at hgd))) | (refine gc_Y ?_ ?_ <;> intro _) | fail)
    refine cont_map (fun _ h => nilRow (e := 150) (n := 3) h) ?_
    rw [hn]
    (refine rt_Y (y := ⟨.slice none 0 0, rfl⟩) (hrs := Tryd.results95) (hv := ?_) (hφ := ?_))
    · rfl
    · trivial
  | some a =>
    repeat' (first | (refine go_Y ?_; intros) | (refine gs_Y ?_ ?_ <;> (intro hgd; try (simp only [Bool.not_true, Bool.not_false] at hgd))) | (refine gc_Y ?_ ?_ <;> intro _) | fail)
    rename_i v1 _ v2 hv2
    (refine rt_Y (y := ⟨v2, hv2⟩) (hrs := Tryd.results95) (hv := ?_) (hφ := ?_))
    · rfl
    · trivial
theorem cloneT_spec (u : Value) (A : HProp) (l : List Tb) (hu : Vw A 5 u (l.map tbV)) (hl : l.length ≤ 1000000) :
    FSpec Tryd.prog 94 [u] [A] { v : Value // v.oneCell' = true } (fun _ => True) (fun y => y.1) (fun y => [row 47 5 y.1 (l.map tbV), A]) := by
  have hlm : (l.map tbV).length = l.length := by simp
  refine spec_intro [] _ Tryd.func94 rfl Tryd.ntmps94 (by rfl) (fun w0 R => ?_)
  refine ok_learn (VwIn.slice (VwIn.here hu)) ?_
  rintro ⟨pu, cu, rfl⟩
  cases pu with
  | none =>
    refine ok_learn (vw_none hu) ?_
    intro hn
    repeat' (first | (refine go_Y ?_; intros) | (refine gs_Y ?_ ?_ <;> (intro hgd; try (simp only [Bool.not_true, Bool.not_false] at hgd))) | (refine gc_Y ?_ ?_ <;> intro _) | fail)
    refine cont_map (fun _ h => nilRow (e := 47) (n := 5) h) ?_
    rw [hn]
    (refine rt_Y (y := ⟨.slice none 0 0, rfl⟩) (hrs := Tryd.results94) (hv := ?_) (hφ := ?_))
    · rfl
    · trivial
  | some a =>
    repeat' (first | (refine go_Y ?_; intros) | (refine gs_Y ?_ ?_ <;> (intro hgd; try (simp only [Bool.not_true, Bool.not_false] at hgd))) | (refine gc_Y ?_ ?_ <;> intro _) | fail)
    rename_i v1 _ v2 hv2
    (refine rt_Y (y := ⟨v2, hv2⟩) (hrs := Tryd.results94) (hv := ?_) (hφ := ?_))
    · rfl
    · trivial
end Go.Proofs.YtbagfdolcabniaaDoor
