/- The chapter's example of layer 15. -/
import Derived.Test.YtbagfdolcabniaaDoorTxG
-- @DEFS Y
set_option linter.unusedSimpArgs false
set_option linter.unusedVariables false
set_option maxRecDepth 100000
set_option pp.deepTerms true
set_option pp.maxSteps 200000
namespace Go.Proofs.YtbagfdolcabniaaDoor
open Go Go.Fx Go.Proofs Go.Pl

theorem num15_spec (n : Int) : FSpec Tryd.prog 59 [.int .i64 n] [] Unit (fun _ => True) (fun _ => .agg (valV ⟨2, n, 0, ⟨#[]⟩⟩).toArray) (fun _ => []) := by
  refine spec_intro [] _ Tryd.func59 rfl Tryd.ntmps59 (by rfl) (fun w0 R => ?_)
  repeat' (first | (refine go_Y ?_; intros) | (refine gs_Y ?_ ?_ <;> (intro hgd; try (simp only [Bool.not_true, Bool.not_false] at hgd))) | (refine gc_Y ?_ ?_ <;> intro _) | fail)
  (refine rt_Y (y := ()) (hrs := Tryd.results59) (hv := ?_) (hφ := ?_))
  · rfl
  · trivial
def ax0 : Tx := ⟨al0, al0.turns, [], [], false⟩
def ax1 : Tx := (ax0.doT alO2).1
def ax2 : Tx := (ax1.doT alO1).1
theorem alO1_row : alO1.row.length ≤ 1000000 ∧ ∀ v ∈ alO1.row, v.wf := ⟨by decide, fun v hv => by rw [List.mem_singleton.1 hv]; exact nV_wf (by decide) (by decide)⟩
theorem alO2_row : alO2.row.length ≤ 1000000 ∧ ∀ v ∈ alO2.row, v.wf := ⟨by decide, fun v hv => by
    simp only [alO2, List.mem_cons, List.not_mem_nil, or_false] at hv
    rcases hv with rfl | rfl <;> exact nV_wf (by decide) (by decide)⟩
theorem tx_new_ok {r : Rl} (h : r.Ok) : Tx.Ok ⟨r, r.turns, [], [], false⟩ := ⟨h, by simp, rfl, fun _ h => by simp at h, fun _ h => by simp at h, h.t0, h.t1⟩
theorem ax0_ok : ax0.Ok := tx_new_ok al0_ok
theorem ax1_ok : ax1.Ok := Tx.Ok.doT ax0_ok alO2_row.1 alO2_row.2
theorem ax2_ok : ax2.Ok := Tx.Ok.doT ax1_ok alO1_row.1 alO1_row.2
theorem ax_e1 : (ax0.doT alO2).2 = 0 := by decide +kernel
theorem ax_e2 : (ax1.doT alO1).2 = 0 := by decide +kernel
theorem ax_c1 : ax1.checkT al0 = 140 := by decide +kernel
theorem ax_c2 : ax2.checkT al0 = 0 := by decide +kernel
theorem ax_l2 : ax2.l.length = 2 := by decide +kernel
theorem ax_o1 : ax1.over = false := by decide +kernel
theorem ax_o2 : ax1.abortT.over = true := rfl
theorem ax_n2 : (al0.play ax2.redo).rows.length = 2 := by decide +kernel
theorem ax_d2 : (ax2.abortT.doT alO2).2 = 150 := by decide +kernel
theorem ax_x2 : (ax2.abortT.doT alO2).1 = ax2.abortT := by unfold Tx.doT; rfl
theorem Tx.Ok.abortT {x : Tx} (hx : x.Ok) : x.abortT.Ok := ⟨hx.own, hx.len, hx.rlen, hx.rows, hx.chg, hx.t0, hx.t1⟩
/-- A slice literal's row, laid into the pool. -/
theorem ops_pool {X : Cx} {ops : Array Oper} {st : List Nat} {T : List HProp} {N : Act → World → Prop} {i : Nat} {os : List Oper} {ds : List Deferred} {ρ : Regs} {L R : List HProp} (A P : HProp) (t : Take L [A, P] R)
    (h : ∀ P', Ext P P' → Ext A P' → OpsL X ops ⟨[], st, T⟩ N i os (P' :: R) ds ρ (P' :: R)) : OpsL X ops ⟨[], st, T⟩ N i os L ds ρ L :=
  opsL_map (fun _ s => pool_in (A := A) (P := P) (Take.out2 t s)) (h _ (Ext.pool A P) (Ext.poolL A P))
set_option maxHeartbeats 4000000 in
theorem alive15_spec (A : HProp) (hA : UT A) : FSpec Tryd.prog 18 [] [A] HProp (fun P' => Ext A P') (fun _ => .bool true) (fun P' => [P']) := by
  refine spec_intro [] _ Tryd.func18 rfl Tryd.ntmps18 (by rfl) (fun w0 R => ?_)
  repeat' (first | (refine go_Y ?_; intros) | (refine gs_Y ?_ ?_ <;> (intro hgd; try (simp only [Bool.not_true, Bool.not_false] at hgd))) | (refine gc_Y ?_ ?_ <;> intro _) | fail)
  refine cl_Y (two_spec) ?_
  rintro ⟨⟨v, hv⟩, tk, P0⟩ ⟨hsv0, hmc⟩
  dsimp only at hsv0 hmc ⊢
  refine ops_pool P0 A takeD ?_
  intro P hEA hE0
  have hsv : SV P v tk := hsv0.ext hE0
  have hU : UT P := hA.ext hEA
  clear hE0 hsv0
  have hnew := new_spec v tk P hsv (by rw [hmc]; exact two_ok)
  rw [hmc] at hnew
  repeat' (first | (refine go_Y ?_; intros) | (refine gs_Y ?_ ?_ <;> (intro hgd; try (simp only [Bool.not_true, Bool.not_false] at hgd))) | (refine gc_Y ?_ ?_ <;> intro _) | fail)
  refine cl_Y (hnew) ?_
  rintro ⟨b, P1⟩ hE1
  dsimp only at hE1 ⊢
  have hU1 := hU.ext hE1
  have hEA1 := hEA.trans hE1
  repeat' (first | (refine go_Y ?_; intros) | (refine gs_Y ?_ ?_ <;> (intro hgd; try (simp only [Bool.not_true, Bool.not_false] at hgd))) | (refine gc_Y ?_ ?_ <;> intro _) | fail)
  refine cl_Y (txNew_spec b al0 P1) ?_
  intro bt _
  repeat' (first | (refine go_Y ?_; intros) | (refine gs_Y ?_ ?_ <;> (intro hgd; try (simp only [Bool.not_true, Bool.not_false] at hgd))) | (refine gc_Y ?_ ?_ <;> intro _) | fail)
  refine cl_Y (num15_spec 2) ?_
  intro _ _
  repeat' (first | (refine go_Y ?_; intros) | (refine gs_Y ?_ ?_ <;> (intro hgd; try (simp only [Bool.not_true, Bool.not_false] at hgd))) | (refine gc_Y ?_ ?_ <;> intro _) | fail)
  refine cl_Y (num15_spec 1) ?_
  intro _ _
  repeat' (first | (refine go_Y ?_; intros) | (refine gs_Y ?_ ?_ <;> (intro hgd; try (simp only [Bool.not_true, Bool.not_false] at hgd))) | (refine gc_Y ?_ ?_ <;> intro _) | fail)
  rename_i w1 hw1
  refine ops_learn (rowShape (e := 31) (n := 4) (v := w1) (xs := [nV 2, nV 1].map valV) (by decide) takeD) ?_
  rintro (⟨rfl, hn⟩ | ⟨g1, c1, rfl, _⟩)
  · cases hn
  refine ops_pool (row 31 4 (.slice (some ⟨g1, 0, none⟩) 2 c1) (alO2.row.map valV)) P1 takeD ?_
  intro Q1 hx1 hr1
  have hwv1 : Vw Q1 4 (.slice (some ⟨g1, 0, none⟩) 2 c1) (alO2.row.map valV) := hr1.vw Vw.row
  have hUq1 := hU1.ext hx1
  have hEq1 := hEA1.trans hx1
  refine opsL_map (fun _ h => relP_ext (b := b) (r := al0) hx1 (Take.out1 takeD h)) ?_
  refine opsL_map (fun _ h => txP_ext (b := bt) (bn := b) (x := ax0) hx1 (Take.out1 takeD h)) ?_
  have hd1 := txDo_spec bt b ax0 alO2 (.slice (some ⟨g1, 0, none⟩) 2 c1) Q1 ax0_ok hUq1 hwv1 rfl alO2_row.2 alO2_row.1
  rw [ax_e1] at hd1
  clear hr1 hx1 hU1 hEA1 hnew hsv hEA hU
  repeat' (first | (refine go_Y ?_; intros) | (refine gs_Y ?_ ?_ <;> (intro hgd; try (simp only [Bool.not_true, Bool.not_false] at hgd))) | (refine gc_Y ?_ ?_ <;> intro _) | fail)
  rename_i bo
  refine cl_Y (hd1) ?_
  intro P2 hE2
  have hU2 := hUq1.ext hE2
  have hEA2 := hEq1.trans hE2
  have hwv2 := hE2.vw hwv1
  refine opsL_map (fun _ h => relP_ext (b := b) (r := al0) hE2 (Take.out1 takeD h)) ?_
  have hcm1 := commit_no bt b ax1 al0 P2 ax1_ok ax_o1 (by rw [ax_c1]; decide)
  rw [ax_c1] at hcm1
  repeat' (first | (refine go_Y ?_; intros) | (refine gs_Y ?_ ?_ <;> (intro hgd; try (simp only [Bool.not_true, Bool.not_false] at hgd))) | (refine gc_Y ?_ ?_ <;> intro _) | fail)
  refine cl_Y (hcm1) ?_
  intro _ _
  repeat' (first | (refine go_Y ?_; intros) | (refine gs_Y ?_ ?_ <;> (intro hgd; try (simp only [Bool.not_true, Bool.not_false] at hgd))) | (refine gc_Y ?_ ?_ <;> intro _) | fail)
  refine cl_Y (relLen_spec b al0 P2) ?_
  intro _ _
  repeat' (first | (refine go_Y ?_; intros) | (refine gs_Y ?_ ?_ <;> (intro hgd; try (simp only [Bool.not_true, Bool.not_false] at hgd))) | (refine gc_Y ?_ ?_ <;> intro _) | fail)
  refine cl_Y (txNew_spec b al0 P2) ?_
  intro bu _
  have hd2 := txDo_spec bu b ax0 alO2 (.slice (some ⟨g1, 0, none⟩) 2 c1) P2 ax0_ok hU2 hwv2 rfl alO2_row.2 alO2_row.1
  rw [ax_e1] at hd2
  repeat' (first | (refine go_Y ?_; intros) | (refine gs_Y ?_ ?_ <;> (intro hgd; try (simp only [Bool.not_true, Bool.not_false] at hgd))) | (refine gc_Y ?_ ?_ <;> intro _) | fail)
  refine cl_Y (hd2) ?_
  intro P3 hE3
  have hU3 := hU2.ext hE3
  have hEA3 := hEA2.trans hE3
  have hwv3 := hE3.vw hwv2
  repeat' (first | (refine go_Y ?_; intros) | (refine gs_Y ?_ ?_ <;> (intro hgd; try (simp only [Bool.not_true, Bool.not_false] at hgd))) | (refine gc_Y ?_ ?_ <;> intro _) | fail)
  refine cl_Y (num15_spec 1) ?_
  intro _ _
  repeat' (first | (refine go_Y ?_; intros) | (refine gs_Y ?_ ?_ <;> (intro hgd; try (simp only [Bool.not_true, Bool.not_false] at hgd))) | (refine gc_Y ?_ ?_ <;> intro _) | fail)
  rename_i w2 hw2
  refine ops_learn (rowShape (e := 31) (n := 4) (v := w2) (xs := [nV 1].map valV) (by decide) takeD) ?_
  rintro (⟨rfl, hn⟩ | ⟨g2, c2, rfl, _⟩)
  · cases hn
  refine ops_pool (row 31 4 (.slice (some ⟨g2, 0, none⟩) 1 c2) (alO1.row.map valV)) P3 takeD ?_
  intro Q3 hx3 hr3
  have hwv3' : Vw Q3 4 (.slice (some ⟨g2, 0, none⟩) 1 c2) (alO1.row.map valV) := hr3.vw Vw.row
  have hUq3 := hU3.ext hx3
  have hEq3 := hEA3.trans hx3
  refine opsL_map (fun _ h => relP_ext (b := b) (r := al0) (hE3.trans hx3) (Take.out1 takeD h)) ?_
  refine opsL_map (fun _ h => txP_ext (b := bu) (bn := b) (x := ax1) hx3 (Take.out1 takeD h)) ?_
  have hd3 := txDo_spec bu b ax1 alO1 (.slice (some ⟨g2, 0, none⟩) 1 c2) Q3 ax1_ok hUq3 hwv3' rfl alO1_row.2 alO1_row.1
  rw [ax_e2] at hd3
  repeat' (first | (refine go_Y ?_; intros) | (refine gs_Y ?_ ?_ <;> (intro hgd; try (simp only [Bool.not_true, Bool.not_false] at hgd))) | (refine gc_Y ?_ ?_ <;> intro _) | fail)
  refine cl_Y (hd3) ?_
  intro P4 hE4
  have hU4 := hUq3.ext hE4
  have hEA4 := hEq3.trans hE4
  have hwv4 := (hx3.trans hE4).vw hwv3
  refine opsL_map (fun _ h => relP_ext (b := b) (r := al0) hE4 (Take.out1 takeD h)) ?_
  have hcm2 := commit_yes bu b ax2 al0 P4 ax2_ok hU4 al0_ok ax_c2
  repeat' (first | (refine go_Y ?_; intros) | (refine gs_Y ?_ ?_ <;> (intro hgd; try (simp only [Bool.not_true, Bool.not_false] at hgd))) | (refine gc_Y ?_ ?_ <;> intro _) | fail)
  refine cl_Y (hcm2) ?_
  rintro ⟨⟨vl, hvl⟩, ck, P5⟩ ⟨hE5, hck, hcm⟩
  dsimp only at hE5 hck hcm ⊢
  have hU5 := hU4.ext hE5
  have hEA5 := hEA4.trans hE5
  have hwv5 := hE5.vw hwv4
  have hov := txOver_spec bt b ax1.abortT P2
  rw [ax_o2] at hov
  have hd4 := txDo_spec bu b ax2.abortT alO2 (.slice (some ⟨g1, 0, none⟩) 2 c1) P5 (Tx.Ok.abortT ax2_ok) hU5 hwv5 rfl alO2_row.2 alO2_row.1
  rw [ax_d2] at hd4
  have f1 : decide ((140 : Int) = (140 : Int)) = true := by decide
  have f0 : decide ((0 : Int) = (0 : Int)) = true := by decide
  have f2 : decide (((al0.rows.length : Nat) : Int) = 0) = true := by decide
  have f3 : decide (((ck.map cmV).length : Int) = 2) = true := by
    have : ck.length = 2 := by rw [← ax_l2, ← hcm]; simp
    rw [List.length_map, this]; rfl
  have f4 : decide ((((al0.play ax2.redo).rows.length : Nat) : Int) = 2) = true := by rw [ax_n2]; rfl
  have f5 : decide ((150 : Int) = (150 : Int)) = true := by decide
  have f6 : decide ((1 : Int) = (1 : Int)) = true := by decide
  repeat' (first | (refine go_Y ?_; intros) | (refine gs_Y ?_ ?_ <;> (intro hgd; try (simp only [Bool.not_true, Bool.not_false] at hgd))) | (refine gc_Y ?_ ?_ <;> intro _) | fail)
  refine cl_Y (txNew_nil) ?_
  intro _ _
  repeat' (first | (refine go_Y ?_; intros) | (refine gs_Y ?_ ?_ <;> (intro hgd; try (simp only [Bool.not_true, Bool.not_false] at hgd))) | (refine gc_Y ?_ ?_ <;> intro _) | fail)
  refine cl_Y (relLen_spec b (al0.play ax2.redo) P5) ?_
  intro _ _
  repeat' (first | (refine go_Y ?_; intros) | (refine gs_Y ?_ ?_ <;> (intro hgd; try (simp only [Bool.not_true, Bool.not_false] at hgd))) | (refine gc_Y ?_ ?_ <;> intro _) | fail)
  refine cl_Y (hov) ?_
  intro _ _
  repeat' (first | (refine go_Y ?_; intros) | (refine gs_Y ?_ ?_ <;> (intro hgd; try (simp only [Bool.not_true, Bool.not_false] at hgd))) | (refine gc_Y ?_ ?_ <;> intro _) | fail)
  refine cl_Y (hd4) ?_
  intro P6 hE6
  repeat' (first | (refine go_Y ?_; intros) | (refine gs_Y ?_ ?_ <;> (intro hgd; try (simp only [Bool.not_true, Bool.not_false] at hgd))) | (refine gc_Y ?_ ?_ <;> intro _) | fail)
  (refine rt_Y (y := P6) (hrs := Tryd.results18) (hv := ?_) (hφ := ?_))
  · rfl
  · exact hEA5.trans hE6
end Go.Proofs.YtbagfdolcabniaaDoor
