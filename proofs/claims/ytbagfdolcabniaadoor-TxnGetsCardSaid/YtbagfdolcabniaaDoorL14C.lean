/- The chapter's example of a state (fasciclelaw14.alive). -/
import Derived.Test.YtbagfdolcabniaaDoorL14B
-- @DEFS Y
set_option linter.unusedSimpArgs false
set_option linter.unusedVariables false
set_option maxRecDepth 100000
namespace Go.Proofs.YtbagfdolcabniaaDoor
open Go Go.Fx Go.Proofs Go.Pl

def nV (n : Int) : Vl := ⟨2, n, 0, ⟨#[]⟩⟩
theorem nV_wf {n : Int} (h0 : 0 ≤ n) (h1 : n ≤ 10) : (nV n).wf := ⟨by show (0 : Int) ≤ 2; decide, by show (2 : Int) ≤ 255; decide, by show _ ≤ n; omega, by show n ≤ _; omega, by show (0 : Int) ≤ 0; decide, by show (0 : Int) ≤ _; decide, by show (0 : Nat) ≤ _; decide⟩
def al0 : Rl := ⟨twoS, [], 0⟩
def alO1 : Opr := ⟨1, 0, [nV 1]⟩
def alO2 : Opr := ⟨1, 1, [nV 2, nV 1]⟩
def alO3 : Opr := ⟨3, 0, [nV 1]⟩
def al1 : Rl := (al0.doOp alO1).1
def al2 : Rl := (al1.doOp alO2).1
def al3 : Rl := (al2.doOp alO3).1
theorem al0_ok : al0.Ok := Rl.Ok.new two_ok
theorem al1_ok : al1.Ok := al0_ok.doOp _
theorem al2_ok : al2.Ok := al1_ok.doOp _
theorem al3_ok : al3.Ok := al2_ok.doOp _
theorem al_e1 : (al0.doOp alO1).2.2.2 = 0 := by decide +kernel
theorem al_e2 : (al1.doOp alO2).2.2.2 = 0 := by decide +kernel
theorem al_e3 : (al2.doOp alO3).2.2.2 = 0 := by decide +kernel
theorem al_l2 : (al1.doOp alO2).2.2.1.length = 2 := by decide +kernel
theorem al_l3 : (al2.doOp alO3).2.1.length = 1 := by decide +kernel
theorem al_w2 : al2.whole = true := by decide +kernel
theorem al_w3 : al3.whole = false := by decide +kernel
theorem al_n3 : al3.rows.length = 1 := by decide +kernel

theorem vw_nil5 {P : HProp} : Vw P 5 (.slice none 0 0) (([] : List Tb).map tbV) := fun h _ => ⟨fun _ hx => by simp at hx, none, 0, rfl, .inl rfl, fun _ => rfl, fun b o hp => by cases hp⟩
/-- Out of a pool that grew: what it was. -/
theorem ext_in {A P : HProp} (e : Ext A P) {L : List HProp} {h : Frag} (s : SatL (P :: L) h) : SatL (A :: L) h := by
  obtain ⟨h1, h2, ha, l1, l2, hP, hL⟩ := s
  obtain ⟨h1', l1', hA⟩ := e h1 hP
  exact ⟨h1', h2, ha.sub l1' (Frag.le.refl _), l1'.trans l1, l2, hA, hL⟩
set_option maxHeartbeats 4000000 in
theorem alive14_spec (A : HProp) (hA : UT A) : FSpec Tryd.prog 11 [] [A] Unit (fun _ => True) (fun _ => .bool true) (fun _ => [A]) := by
  have e2 : decide ((((al1.doOp alO2).2.2.1.map valV).length : Int) = 2) = true := by rw [List.length_map, al_l2]; rfl
  have e3 : decide ((((al2.doOp alO3).2.1.map valV).length : Int) = 1) = true := by rw [List.length_map, al_l3]; rfl
  refine spec_intro [] _ Tryd.func11 rfl Tryd.ntmps11 (by rfl) (fun w0 R => ?_)
  repeat' (first | (refine go_Y ?_; intros) | (refine gs_Y ?_ ?_ <;> (intro hgd; try (simp only [Bool.not_true, Bool.not_false] at hgd))) | (refine gc_Y ?_ ?_ <;> intro _) | fail)
  refine cl_Y (two_spec) ?_
  rintro ⟨⟨v, hv⟩, tk, P0⟩ ⟨hsv0, hmc⟩
  dsimp only at hsv0 hmc ⊢
  refine opsL_map (fun _ h => pool_in (A := P0) (P := A) (Take.out2 takeD h)) ?_
  have hsv : SV (pool P0 A) v tk := hsv0.ext (Ext.poolL _ _)
  have hU : UT (pool P0 A) := hA.ext (Ext.pool _ _)
  have hEA : Ext A (pool P0 A) := Ext.pool _ _
  generalize pool P0 A = P at hsv hU hEA
  have hnew := new_spec v tk P hsv (by rw [hmc]; exact two_ok)
  rw [hmc] at hnew
  repeat' (first | (refine go_Y ?_; intros) | (refine gs_Y ?_ ?_ <;> (intro hgd; try (simp only [Bool.not_true, Bool.not_false] at hgd))) | (refine gc_Y ?_ ?_ <;> intro _) | fail)
  refine cl_Y (hnew) ?_
  rintro ⟨b, P1⟩ hE1
  dsimp only at hE1 ⊢
  have hU1 := hU.ext hE1
  have hEA1 := hEA.trans hE1
  repeat' (first | (refine go_Y ?_; intros) | (refine gs_Y ?_ ?_ <;> (intro hgd; try (simp only [Bool.not_true, Bool.not_false] at hgd))) | (refine gc_Y ?_ ?_ <;> intro _) | fail)
  refine cl_Y (num14_spec 1) ?_
  intro _ _
  repeat' (first | (refine go_Y ?_; intros) | (refine gs_Y ?_ ?_ <;> (intro hgd; try (simp only [Bool.not_true, Bool.not_false] at hgd))) | (refine gc_Y ?_ ?_ <;> intro _) | fail)
  rename_i w1 hw1
  refine ops_learn (rowShape (e := 31) (n := 4) (v := w1) (xs := [nV 1].map valV) (by decide) takeD) ?_
  rintro (⟨rfl, hn⟩ | ⟨g1, c1, rfl, _⟩)
  · cases hn
  refine opsL_map (fun _ h => pool_in (A := row 31 4 (.slice (some ⟨g1, 0, none⟩) 1 c1) ([nV 1].map valV)) (P := P1) (Take.out2 takeD h)) ?_
  have hx1 := Ext.pool (row 31 4 (.slice (some ⟨g1, 0, none⟩) 1 c1) ([nV 1].map valV)) P1
  have hwv1 : Vw (pool (row 31 4 (.slice (some ⟨g1, 0, none⟩) 1 c1) ([nV 1].map valV)) P1) 4 (.slice (some ⟨g1, 0, none⟩) 1 c1) (alO1.row.map valV) := pool_row
  refine opsL_map (fun _ h => relP_ext (b := b) (r := al0) hx1 (Take.out1 takeD h)) ?_
  have hUq1 := hU1.ext hx1
  have hEq1 := hEA1.trans hx1
  generalize pool (row 31 4 (.slice (some ⟨g1, 0, none⟩) 1 c1) ([nV 1].map valV)) P1 = Q1 at hx1 hwv1 hUq1 hEq1
  have hdo1 := relDo_spec b al0 alO1 (.slice (some ⟨g1, 0, none⟩) 1 c1) Q1 al0_ok hUq1 hwv1 rfl (fun v hv => by rw [List.mem_singleton.1 hv]; exact nV_wf (by decide) (by decide)) (by decide)
  rw [al_e1] at hdo1
  repeat' (first | (refine go_Y ?_; intros) | (refine gs_Y ?_ ?_ <;> (intro hgd; try (simp only [Bool.not_true, Bool.not_false] at hgd))) | (refine gc_Y ?_ ?_ <;> intro _) | fail)
  refine cl_Y (hdo1) ?_
  rintro ⟨⟨b1, hb1⟩, ⟨a1, ha1⟩, P2⟩ ⟨hE2, hbv1⟩
  dsimp only at hE2 hbv1 ⊢
  have hU2 := hUq1.ext hE2
  have hEA2 := hEq1.trans hE2
  refine opsL_map (L' := [relP P2 b al1, P2] ++ R) entD ?_
  repeat' (first | (refine go_Y ?_; intros) | (refine gs_Y ?_ ?_ <;> (intro hgd; try (simp only [Bool.not_true, Bool.not_false] at hgd))) | (refine gc_Y ?_ ?_ <;> intro _) | fail)
  refine cl_Y (num14_spec 2) ?_
  intro _ _
  repeat' (first | (refine go_Y ?_; intros) | (refine gs_Y ?_ ?_ <;> (intro hgd; try (simp only [Bool.not_true, Bool.not_false] at hgd))) | (refine gc_Y ?_ ?_ <;> intro _) | fail)
  refine cl_Y (num14_spec 1) ?_
  intro _ _
  repeat' (first | (refine go_Y ?_; intros) | (refine gs_Y ?_ ?_ <;> (intro hgd; try (simp only [Bool.not_true, Bool.not_false] at hgd))) | (refine gc_Y ?_ ?_ <;> intro _) | fail)
  rename_i w2 hw2
  refine ops_learn (rowShape (e := 31) (n := 4) (v := w2) (xs := [nV 2, nV 1].map valV) (by decide) takeD) ?_
  rintro (⟨rfl, hn⟩ | ⟨g2, c2, rfl, _⟩)
  · cases hn
  refine opsL_map (fun _ h => pool_in (A := row 31 4 (.slice (some ⟨g2, 0, none⟩) 2 c2) ([nV 2, nV 1].map valV)) (P := P2) (Take.out2 takeD h)) ?_
  have hx2 := Ext.pool (row 31 4 (.slice (some ⟨g2, 0, none⟩) 2 c2) ([nV 2, nV 1].map valV)) P2
  have hwv2 : Vw (pool (row 31 4 (.slice (some ⟨g2, 0, none⟩) 2 c2) ([nV 2, nV 1].map valV)) P2) 4 (.slice (some ⟨g2, 0, none⟩) 2 c2) (alO2.row.map valV) := pool_row
  refine opsL_map (fun _ h => relP_ext (b := b) (r := al1) hx2 (Take.out1 takeD h)) ?_
  have hUq2 := hU2.ext hx2
  have hEq2 := hEA2.trans hx2
  generalize pool (row 31 4 (.slice (some ⟨g2, 0, none⟩) 2 c2) ([nV 2, nV 1].map valV)) P2 = Q2 at hx2 hwv2 hUq2 hEq2
  have hdo2 := relDo_spec b al1 alO2 (.slice (some ⟨g2, 0, none⟩) 2 c2) Q2 al1_ok hUq2 hwv2 rfl (fun v hv => by
    simp only [alO2, List.mem_cons, List.not_mem_nil, or_false] at hv
    rcases hv with rfl | rfl <;> exact nV_wf (by decide) (by decide)) (by decide)
  rw [al_e2] at hdo2
  repeat' (first | (refine go_Y ?_; intros) | (refine gs_Y ?_ ?_ <;> (intro hgd; try (simp only [Bool.not_true, Bool.not_false] at hgd))) | (refine gc_Y ?_ ?_ <;> intro _) | fail)
  refine cl_Y (hdo2) ?_
  rintro ⟨⟨b2, hb2⟩, ⟨a2, ha2⟩, P3⟩ ⟨hE3, hbv2⟩
  dsimp only at hE3 hbv2 ⊢
  have hU3 := hUq2.ext hE3
  have hEA3 := hEq2.trans hE3
  refine opsL_map (L' := [row 31 4 a2 ((al1.doOp alO2).2.2.1.map valV), relP P3 b al2, P3] ++ R) entD ?_
  have hwh2 := relWhole_spec b al2 P3 al2_ok
  rw [al_w2, cond_true] at hwh2
  repeat' (first | (refine go_Y ?_; intros) | (refine gs_Y ?_ ?_ <;> (intro hgd; try (simp only [Bool.not_true, Bool.not_false] at hgd))) | (refine gc_Y ?_ ?_ <;> intro _) | fail)
  refine cl_Y (hwh2) ?_
  intro _ _
  repeat' (first | (refine go_Y ?_; intros) | (refine gs_Y ?_ ?_ <;> (intro hgd; try (simp only [Bool.not_true, Bool.not_false] at hgd))) | (refine gc_Y ?_ ?_ <;> intro _) | fail)
  refine cl_Y (num14_spec 1) ?_
  intro _ _
  repeat' (first | (refine go_Y ?_; intros) | (refine gs_Y ?_ ?_ <;> (intro hgd; try (simp only [Bool.not_true, Bool.not_false] at hgd))) | (refine gc_Y ?_ ?_ <;> intro _) | fail)
  rename_i w3 hw3
  refine ops_learn (rowShape (e := 31) (n := 4) (v := w3) (xs := [nV 1].map valV) (by decide) takeD) ?_
  rintro (⟨rfl, hn⟩ | ⟨g3, c3, rfl, _⟩)
  · cases hn
  refine opsL_map (fun _ h => pool_in (A := row 31 4 (.slice (some ⟨g3, 0, none⟩) 1 c3) ([nV 1].map valV)) (P := P3) (Take.out2 takeD h)) ?_
  have hx3 := Ext.pool (row 31 4 (.slice (some ⟨g3, 0, none⟩) 1 c3) ([nV 1].map valV)) P3
  have hwv3 : Vw (pool (row 31 4 (.slice (some ⟨g3, 0, none⟩) 1 c3) ([nV 1].map valV)) P3) 4 (.slice (some ⟨g3, 0, none⟩) 1 c3) (alO3.row.map valV) := pool_row
  refine opsL_map (fun _ h => relP_ext (b := b) (r := al2) hx3 (Take.out1 takeD h)) ?_
  have hUq3 := hU3.ext hx3
  have hEq3 := hEA3.trans hx3
  generalize pool (row 31 4 (.slice (some ⟨g3, 0, none⟩) 1 c3) ([nV 1].map valV)) P3 = Q3 at hx3 hwv3 hUq3 hEq3
  have hdo3 := relDo_spec b al2 alO3 (.slice (some ⟨g3, 0, none⟩) 1 c3) Q3 al2_ok hUq3 hwv3 rfl (fun v hv => by rw [List.mem_singleton.1 hv]; exact nV_wf (by decide) (by decide)) (by decide)
  rw [al_e3] at hdo3
  repeat' (first | (refine go_Y ?_; intros) | (refine gs_Y ?_ ?_ <;> (intro hgd; try (simp only [Bool.not_true, Bool.not_false] at hgd))) | (refine gc_Y ?_ ?_ <;> intro _) | fail)
  refine cl_Y (hdo3) ?_
  rintro ⟨⟨b3, hb3⟩, ⟨a3, ha3⟩, P4⟩ ⟨hE4, hbv3⟩
  dsimp only at hE4 hbv3 ⊢
  have hEA4 := hEq3.trans hE4
  refine opsL_map (L' := [row 31 4 a2 ((al1.doOp alO2).2.2.1.map valV), relP P4 b al3, P4] ++ R) entD ?_
  have hnb := new_bad (.slice none 0 0) [] P4 ⟨vw_nil5, (fun _ h => by cases h), by show (0 : Nat) ≤ 1000; decide, cap0⟩ rfl
  have hwh3 := relWhole_spec b al3 P4 al3_ok
  rw [al_w3, cond_false] at hwh3
  have hln := relLen_spec b al3 P4
  rw [al_n3, show ((1 : Nat) : Int) = 1 from rfl] at hln
  repeat' (first | (refine go_Y ?_; intros) | (refine gs_Y ?_ ?_ <;> (intro hgd; try (simp only [Bool.not_true, Bool.not_false] at hgd))) | (refine gc_Y ?_ ?_ <;> intro _) | fail)
  refine cl_Y (hnb) ?_
  intro _ _
  repeat' (first | (refine go_Y ?_; intros) | (refine gs_Y ?_ ?_ <;> (intro hgd; try (simp only [Bool.not_true, Bool.not_false] at hgd))) | (refine gc_Y ?_ ?_ <;> intro _) | fail)
  refine cl_Y (hwh3) ?_
  intro _ _
  repeat' (first | (refine go_Y ?_; intros) | (refine gs_Y ?_ ?_ <;> (intro hgd; try (simp only [Bool.not_true, Bool.not_false] at hgd))) | (refine gc_Y ?_ ?_ <;> intro _) | fail)
  refine cl_Y (hln) ?_
  intro _ _
  repeat' (first | (refine go_Y ?_; intros) | (refine gs_Y ?_ ?_ <;> (intro hgd; try (simp only [Bool.not_true, Bool.not_false] at hgd))) | (refine gc_Y ?_ ?_ <;> intro _) | fail)
  refine cont_map (fun _ h => ext_in hEA4 (Take.out1 takeD h)) ?_
  (refine rt_Y (y := ()) (hrs := Tryd.results11) (hv := ?_) (hφ := ?_))
  · rfl
  · trivial
end Go.Proofs.YtbagfdolcabniaaDoor
