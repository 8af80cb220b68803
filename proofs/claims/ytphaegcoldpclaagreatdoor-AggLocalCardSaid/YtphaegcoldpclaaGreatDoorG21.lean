/- Texts merged: PhI PhH PhL0 PhLA. -/
import Derived.Test.YtphaegcoldpclaaGreatDoorG20
import Derived.Test.YtphaegcoldpclaaGreatDoorG10
import Derived.Test.YtphaegcoldpclaaGreatDoorG16
import Derived.Test.YtphaegcoldpclaaGreatDoorQcG
import Derived.Test.YtphaegcoldpclaaGreatDoorG8
import Derived.Test.YtphaegcoldpclaaGreatDoorG15
import Derived.Test.YtphaegcoldpclaaGreatDoorG18
import Derived.Test.YtphaegcoldpclaaGreatDoorG5
import Derived.Test.YtphaegcoldpclaaGreatDoorG22
set_option linter.unusedSimpArgs false
set_option linter.unusedVariables false
set_option maxRecDepth 100000
namespace Go.Proofs.YtphaegcoldpclaaGreatDoor
open Go Go.Fx Go.Proofs Go.Pl

theorem num24_spec (n : Int) : FSpec Tryz.prog 41 [.int .i64 n] [] Unit (fun _ => True) (fun _ => .agg (valV ⟨2, n, 0, ⟨#[]⟩⟩).toArray) (fun _ => []) := by
  refine spec_intro [] _ Tryz.func41 rfl Tryz.ntmps41 (by rfl) (fun w0 R => ?_)
  repeat' (first | (refine go_Y ?_; intros) | (refine gs_Y ?_ ?_ <;> (intro hgd; try (simp only [Bool.not_true, Bool.not_false] at hgd))) | (refine gc_Y ?_ ?_ <;> intro _) | fail)
  (refine rt_Y (y := ()) (hrs := Tryz.results41) (hv := ?_) (hφ := ?_))
  · rfl
  · trivial
def agO2 : Opr := ⟨1, 1, [nV 3, nV 1]⟩
def agO3 : Opr := ⟨1, 1, [nV 2, nV 1]⟩
def ag2 : Rl := (al1.doOp agO2).1
def ag3 : Rl := (ag2.doOp agO3).1
theorem ag2_ok : ag2.Ok := al1_ok.doOp _
theorem ag3_ok : ag3.Ok := ag2_ok.doOp _
theorem ag_wf1 : ∀ v ∈ alO1.row, v.wf := fun v hv => by rw [List.mem_singleton.1 hv]; exact nV_wf (by decide) (by decide)
theorem ag_wf2 : ∀ v ∈ agO2.row, v.wf := fun v hv => by
    simp only [agO2, List.mem_cons, List.not_mem_nil, or_false] at hv
    rcases hv with rfl | rfl <;> exact nV_wf (by decide) (by decide)
theorem ag_wf3 : ∀ v ∈ agO3.row, v.wf := fun v hv => by
    simp only [agO3, List.mem_cons, List.not_mem_nil, or_false] at hv
    rcases hv with rfl | rfl <;> exact nV_wf (by decide) (by decide)
theorem ag3_wf : Rl.Wf ag3 := doOp_wf' (doOp_wf' (doOp_wf' (r := al0) (new_wf' (s := twoS)) ag_wf1) ag_wf2) ag_wf3
theorem ag_e2 : (al1.doOp agO2).2.2.2 = 0 := by decide +kernel
theorem ag_e3 : (ag2.doOp agO3).2.2.2 = 0 := by decide +kernel
def agq : List Rr := [⟨0, ⟨.slice none 0 0, rfl⟩, [nV 1]⟩, ⟨1, ⟨.slice none 0 0, rfl⟩, [nV 2, nV 1]⟩, ⟨1, ⟨.slice none 0 0, rfl⟩, [nV 3, nV 1]⟩]
theorem ag_perm : (agq.map (Rr.pl ag3.s)).isPerm ag3.rows = true := by decide +kernel
theorem ag_srt : ((agq.map (Rr.pl ag3.s)).map (·.1)).Pairwise fun x y => pltB x y = true := by decide +kernel
theorem ag_ref : RefQ ag3 agq := ⟨List.isPerm_iff.1 ag_perm, by have := ag_srt; rw [List.map_map, List.pairwise_map] at this; exact this⟩
def agR : List Pr2 := [(0, [nV 1]), (1, [nV 2, nV 1]), (1, [nV 3, nV 1])]
theorem ag_R : RowsQ ag3 agR := ag_ref.rowsQ ag3_ok
theorem ag_g0 : aget (0, nV 1) ag3.rows = some [nV 1] := by decide +kernel
theorem ag_g1 : aget (1, nV 3) ag3.rows = some [nV 3, nV 1] := by decide +kernel
theorem ag_g9 : aget (0, nV 9) ag3.rows = none := by decide +kernel
theorem ag_c9 : (ag3.getOp 0 (nV 9)).2 = 3 := by decide +kernel
theorem ag_len : ag3.s.length = 2 := by decide +kernel
def agD : Dc := .mk 0 [nV 1] [.mk 1 [nV 2, nV 1] [], .mk 1 [nV 3, nV 1] []]
theorem ag_kids0 : kidsR ag3.s agR (0, [nV 1]) = [(1, [nV 2, nV 1]), (1, [nV 3, nV 1])] := by decide +kernel
theorem ag_kids1 : kidsR ag3.s agR (1, [nV 2, nV 1]) = [] := by decide +kernel
theorem ag_kids2 : kidsR ag3.s agR (1, [nV 3, nV 1]) = [] := by decide +kernel
theorem ag_doc : docS ag3.s agR ag3.s.length 0 [nV 1] = agD := by
  rw [ag_len]
  have h1 := docS_succ (s := ag3.s) (R := agR) 0 (1, [nV 2, nV 1])
  have h2 := docS_succ (s := ag3.s) (R := agR) 0 (1, [nV 3, nV 1])
  have h0 := docS_succ (s := ag3.s) (R := agR) 1 (0, [nV 1])
  rw [ag_kids1] at h1
  rw [ag_kids2] at h2
  rw [ag_kids0] at h0
  simp only [List.map_cons, List.map_nil] at h0 h1 h2
  rw [h0, h1, h2]; rfl
theorem ag_size : sizeS agD = 3 := by decide +kernel
theorem ag_root : rootAns ag3 (1, [nV 3, nV 1]) = (0, nV 1, true) := by decide +kernel
theorem ag_same : (decide (0 < sizeS agD) && (decide (0 < sizeS agD) && sameD agD agD)) = true := by
  rw [ag_size, (sameD_iff _ _).2 rfl]; decide
theorem nV_eq (n : Int) : nilB BinOp.eql (eqL [TypeDesc.int .u8, TypeDesc.int .i64, TypeDesc.int .u64, TypeDesc.string] [Value.int .u8 2, Value.int .i64 n, Value.int .u64 0, Value.string ⟨#[]⟩] [Value.int .u8 2, Value.int .i64 n, Value.int .u64 0, Value.string ⟨#[]⟩]) = true := by
  have := eqL_valV (nV n) (nV n)
  simp only [nilB]
  rw [show eqL [TypeDesc.int .u8, TypeDesc.int .i64, TypeDesc.int .u64, TypeDesc.string] [Value.int .u8 2, Value.int .i64 n, Value.int .u64 0, Value.string ⟨#[]⟩] [Value.int .u8 2, Value.int .i64 n, Value.int .u64 0, Value.string ⟨#[]⟩] = _ from this]
  simp
set_option maxHeartbeats 8000000 in
theorem alive24_spec (A : HProp) (hA : UT A) : FSpec Tryz.prog 8 [] [A] Unit (fun _ => True) (fun _ => .bool true) (fun _ => [A]) := by
  have f0 : (!decide ((0 : Int) = (0 : Int))) = false := by decide
  refine spec_intro [] _ Tryz.func8 rfl Tryz.ntmps8 (by rfl) (fun w0 R => ?_)
  repeat' (first | (refine go_Y ?_; intros) | (refine gs_Y ?_ ?_ <;> (intro hgd; try (simp only [Bool.not_true, Bool.not_false] at hgd))) | (refine gc_Y ?_ ?_ <;> intro _) | fail)
  refine cl_Y (two_spec) ?_
  rintro ⟨⟨v, hv⟩, tk, P0⟩ ⟨hsv0, hmc⟩
  dsimp only at hsv0 hmc ⊢
  refine opsL_map (fun _ h => pool_in (A := P0) (P := A) (Take.out2 takeD h)) ?_
  have hsv : SV (pool P0 A) v tk := hsv0.ext (Ext.poolL _ _)
  have hU : UT (pool P0 A) := hA.ext (Ext.pool _ _)
  have hEA : Ext A (pool P0 A) := Ext.pool _ _
  generalize pool P0 A = P at hsv hU hEA
  have hnew := new_spec v tk P hsv (by rw [hmc]; exact two_ok)
  rw [hmc] at hnew
  repeat' (first | (refine go_Y ?_; intros) | (refine gs_Y ?_ ?_ <;> (intro hgd; try (simp only [Bool.not_true, Bool.not_false] at hgd))) | (refine gc_Y ?_ ?_ <;> intro _) | fail)
  refine cl_Y (hnew) ?_
  rintro ⟨b, P1⟩ hE1
  dsimp only at hE1 ⊢
  have hU1 := hU.ext hE1
  have hEA1 := hEA.trans hE1
  repeat' (first | (refine go_Y ?_; intros) | (refine gs_Y ?_ ?_ <;> (intro hgd; try (simp only [Bool.not_true, Bool.not_false] at hgd))) | (refine gc_Y ?_ ?_ <;> intro _) | fail)
  refine cl_Y (num24_spec 1) ?_
  intro _ _
  repeat' (first | (refine go_Y ?_; intros) | (refine gs_Y ?_ ?_ <;> (intro hgd; try (simp only [Bool.not_true, Bool.not_false] at hgd))) | (refine gc_Y ?_ ?_ <;> intro _) | fail)
  rename_i w1 hw1
  refine ops_learn (rowShape (e := 28) (n := 4) (v := w1) (xs := [nV 1].map valV) (by decide) takeD) ?_
  rintro (⟨rfl, hn⟩ | ⟨g1, c1, rfl, _⟩)
  · cases hn
  refine opsL_map (fun _ h => pool_in (A := row 28 4 (.slice (some ⟨g1, 0, none⟩) 1 c1) ([nV 1].map valV)) (P := P1) (Take.out2 takeD h)) ?_
  have hx1 := Ext.pool (row 28 4 (.slice (some ⟨g1, 0, none⟩) 1 c1) ([nV 1].map valV)) P1
  have hwv1 : Vw (pool (row 28 4 (.slice (some ⟨g1, 0, none⟩) 1 c1) ([nV 1].map valV)) P1) 4 (.slice (some ⟨g1, 0, none⟩) 1 c1) (alO1.row.map valV) := pool_row
  refine opsL_map (fun _ h => relP_ext (b := b) (r := al0) hx1 (Take.out1 takeD h)) ?_
  have hUq1 := hU1.ext hx1
  have hEq1 := hEA1.trans hx1
  generalize pool (row 28 4 (.slice (some ⟨g1, 0, none⟩) 1 c1) ([nV 1].map valV)) P1 = Q1 at hx1 hwv1 hUq1 hEq1
  have hdo1 := relDo_spec b al0 alO1 (.slice (some ⟨g1, 0, none⟩) 1 c1) Q1 al0_ok hUq1 hwv1 rfl ag_wf1 (by decide)
  rw [al_e1] at hdo1
  repeat' (first | (refine go_Y ?_; intros) | (refine gs_Y ?_ ?_ <;> (intro hgd; try (simp only [Bool.not_true, Bool.not_false] at hgd))) | (refine gc_Y ?_ ?_ <;> intro _) | fail)
  refine cl_Y (hdo1) ?_
  rintro ⟨⟨b1, hb1⟩, ⟨a1, ha1⟩, P2⟩ ⟨hE2, hbv1⟩
  dsimp only at hE2 hbv1 ⊢
  have hU2 := hUq1.ext hE2
  have hEA2 := hEq1.trans hE2
  refine opsL_map (L' := [relP P2 b al1, P2] ++ R) entD ?_
  repeat' (first | (refine go_Y ?_; intros) | (refine gs_Y ?_ ?_ <;> (intro hgd; try (simp only [Bool.not_true, Bool.not_false] at hgd))) | (refine gc_Y ?_ ?_ <;> intro _) | fail)
  refine cl_Y (num24_spec 3) ?_
  intro _ _
  repeat' (first | (refine go_Y ?_; intros) | (refine gs_Y ?_ ?_ <;> (intro hgd; try (simp only [Bool.not_true, Bool.not_false] at hgd))) | (refine gc_Y ?_ ?_ <;> intro _) | fail)
  refine cl_Y (num24_spec 1) ?_
  intro _ _
  repeat' (first | (refine go_Y ?_; intros) | (refine gs_Y ?_ ?_ <;> (intro hgd; try (simp only [Bool.not_true, Bool.not_false] at hgd))) | (refine gc_Y ?_ ?_ <;> intro _) | fail)
  rename_i w2 hw2
  refine ops_learn (rowShape (e := 28) (n := 4) (v := w2) (xs := [nV 3, nV 1].map valV) (by decide) takeD) ?_
  rintro (⟨rfl, hn⟩ | ⟨g2, c2, rfl, _⟩)
  · cases hn
  refine opsL_map (fun _ h => pool_in (A := row 28 4 (.slice (some ⟨g2, 0, none⟩) 2 c2) ([nV 3, nV 1].map valV)) (P := P2) (Take.out2 takeD h)) ?_
  have hx2 := Ext.pool (row 28 4 (.slice (some ⟨g2, 0, none⟩) 2 c2) ([nV 3, nV 1].map valV)) P2
  have hwv2 : Vw (pool (row 28 4 (.slice (some ⟨g2, 0, none⟩) 2 c2) ([nV 3, nV 1].map valV)) P2) 4 (.slice (some ⟨g2, 0, none⟩) 2 c2) (agO2.row.map valV) := pool_row
  refine opsL_map (fun _ h => relP_ext (b := b) (r := al1) hx2 (Take.out1 takeD h)) ?_
  have hUq2 := hU2.ext hx2
  have hEq2 := hEA2.trans hx2
  generalize pool (row 28 4 (.slice (some ⟨g2, 0, none⟩) 2 c2) ([nV 3, nV 1].map valV)) P2 = Q2 at hx2 hwv2 hUq2 hEq2
  have hdo2 := relDo_spec b al1 agO2 (.slice (some ⟨g2, 0, none⟩) 2 c2) Q2 al1_ok hUq2 hwv2 rfl ag_wf2 (by decide)
  rw [ag_e2] at hdo2
  repeat' (first | (refine go_Y ?_; intros) | (refine gs_Y ?_ ?_ <;> (intro hgd; try (simp only [Bool.not_true, Bool.not_false] at hgd))) | (refine gc_Y ?_ ?_ <;> intro _) | fail)
  refine cl_Y (hdo2) ?_
  rintro ⟨⟨b2, hb2⟩, ⟨a2, ha2⟩, P3⟩ ⟨hE3, hbv2⟩
  dsimp only at hE3 hbv2 ⊢
  have hU3 := hUq2.ext hE3
  have hEA3 := hEq2.trans hE3
  refine opsL_map (L' := [relP P3 b ag2, P3] ++ R) entD ?_
  repeat' (first | (refine go_Y ?_; intros) | (refine gs_Y ?_ ?_ <;> (intro hgd; try (simp only [Bool.not_true, Bool.not_false] at hgd))) | (refine gc_Y ?_ ?_ <;> intro _) | fail)
  refine cl_Y (num24_spec 2) ?_
  intro _ _
  repeat' (first | (refine go_Y ?_; intros) | (refine gs_Y ?_ ?_ <;> (intro hgd; try (simp only [Bool.not_true, Bool.not_false] at hgd))) | (refine gc_Y ?_ ?_ <;> intro _) | fail)
  refine cl_Y (num24_spec 1) ?_
  intro _ _
  repeat' (first | (refine go_Y ?_; intros) | (refine gs_Y ?_ ?_ <;> (intro hgd; try (simp only [Bool.not_true, Bool.not_false] at hgd))) | (refine gc_Y ?_ ?_ <;> intro _) | fail)
  rename_i w3 hw3
  refine ops_learn (rowShape (e := 28) (n := 4) (v := w3) (xs := [nV 2, nV 1].map valV) (by decide) takeD) ?_
  rintro (⟨rfl, hn⟩ | ⟨g3, c3, rfl, _⟩)
  · cases hn
  refine opsL_map (fun _ h => pool_in (A := row 28 4 (.slice (some ⟨g3, 0, none⟩) 2 c3) ([nV 2, nV 1].map valV)) (P := P3) (Take.out2 takeD h)) ?_
  have hx3 := Ext.pool (row 28 4 (.slice (some ⟨g3, 0, none⟩) 2 c3) ([nV 2, nV 1].map valV)) P3
  have hwv3 : Vw (pool (row 28 4 (.slice (some ⟨g3, 0, none⟩) 2 c3) ([nV 2, nV 1].map valV)) P3) 4 (.slice (some ⟨g3, 0, none⟩) 2 c3) (agO3.row.map valV) := pool_row
  refine opsL_map (fun _ h => relP_ext (b := b) (r := ag2) hx3 (Take.out1 takeD h)) ?_
  have hUq3 := hU3.ext hx3
  have hEq3 := hEA3.trans hx3
  generalize pool (row 28 4 (.slice (some ⟨g3, 0, none⟩) 2 c3) ([nV 2, nV 1].map valV)) P3 = Q3 at hx3 hwv3 hUq3 hEq3
  have hdo3 := relDo_spec b ag2 agO3 (.slice (some ⟨g3, 0, none⟩) 2 c3) Q3 ag2_ok hUq3 hwv3 rfl ag_wf3 (by decide)
  rw [ag_e3] at hdo3
  repeat' (first | (refine go_Y ?_; intros) | (refine gs_Y ?_ ?_ <;> (intro hgd; try (simp only [Bool.not_true, Bool.not_false] at hgd))) | (refine gc_Y ?_ ?_ <;> intro _) | fail)
  refine cl_Y (hdo3) ?_
  rintro ⟨⟨b3, hb3⟩, ⟨a3, ha3⟩, P4⟩ ⟨hE4, hbv3⟩
  dsimp only at hE4 hbv3 ⊢
  have hU4 := hUq3.ext hE4
  have hEA4 := hEq3.trans hE4
  refine opsL_map (L' := [relP P4 b ag3, P4] ++ R) entD ?_
  repeat' (first | (refine go_Y ?_; intros) | (refine gs_Y ?_ ?_ <;> (intro hgd; try (simp only [Bool.not_true, Bool.not_false] at hgd))) | (refine gc_Y ?_ ?_ <;> intro _) | fail)
  refine cl_Y (num24_spec 1) ?_
  intro _ _
  repeat' (first | (refine go_Y ?_; intros) | (refine gs_Y ?_ ?_ <;> (intro hgd; try (simp only [Bool.not_true, Bool.not_false] at hgd))) | (refine gc_Y ?_ ?_ <;> intro _) | fail)
  have hof := aOf_some ag_R ag3_ok ag3_wf b 0 (nV 1) [nV 1] P4 hU4 (nV_wf (by decide) (by decide)) ag_g0
  rw [ag_doc] at hof
  refine cl_Y (hof) ?_
  rintro ⟨d, P5⟩ ⟨hE5, hdR, hdc⟩
  dsimp only at hE5 hdR hdc ⊢
  have hU5 := hU4.ext hE5
  have hEA5 := hEA4.trans hE5
  obtain ⟨dt, ⟨lv, hlv⟩, drow, ⟨kv, hkv⟩, kids⟩ := d
  have hone : oneCells [Value.int .i64 dt, lv, kv] = true := by
    simp only [oneCells, List.all_cons, List.all_nil, hlv, hkv, Bool.and_true]; rfl
  dsimp only [docV] at hdR ⊢
  repeat' (first | (refine go_Y ?_; intros) | (refine gs_Y ?_ ?_ <;> (intro hgd; try (simp only [Bool.not_true, Bool.not_false] at hgd))) | (refine gc_Y ?_ ?_ <;> intro _) | fail)
  rename_i b3
  refine cl_Y (num24_spec 3) ?_
  intro _ _
  repeat' (first | (refine go_Y ?_; intros) | (refine gs_Y ?_ ?_ <;> (intro hgd; try (simp only [Bool.not_true, Bool.not_false] at hgd))) | (refine gc_Y ?_ ?_ <;> intro _) | fail)
  have hrt := aRoot_some ag_R ag3_ok ag3_wf b 1 (nV 3) [nV 3, nV 1] P5 hU5 (nV_wf (by decide) (by decide)) ag_g1
  rw [ag_root] at hrt
  dsimp only at hrt
  refine cl_Y (hrt) ?_
  intro P6 hE6
  have hU6 := hU5.ext hE6
  have hEA6 := hEA5.trans hE6
  dsimp only [nV, valV]
  repeat' (first | (refine go_Y ?_; intros) | (refine gs_Y ?_ ?_ <;> (intro hgd; try (simp only [Bool.not_true, Bool.not_false] at hgd))) | (refine gc_Y ?_ ?_ <;> intro _) | fail)
  refine cl_Y (aAll_nil) ?_
  intro _ _
  repeat' (first | (refine go_Y ?_; intros) | (refine gs_Y ?_ ?_ <;> (intro hgd; try (simp only [Bool.not_true, Bool.not_false] at hgd))) | (refine gc_Y ?_ ?_ <;> intro _) | fail)
  refine cl_Y (num24_spec 9) ?_
  intro _ _
  repeat' (first | (refine go_Y ?_; intros) | (refine gs_Y ?_ ?_ <;> (intro hgd; try (simp only [Bool.not_true, Bool.not_false] at hgd))) | (refine gc_Y ?_ ?_ <;> intro _) | fail)
  have hof9 := aOf_none ag3_ok b 0 (nV 9) P6 hU6 (nV_wf (by decide) (by decide)) ag_g9
  rw [ag_c9] at hof9
  refine cl_Y (hof9) ?_
  intro _ _
  dsimp only [docE]
  repeat' (first | (refine go_Y ?_; intros) | (refine gs_Y ?_ ?_ <;> (intro hgd; try (simp only [Bool.not_true, Bool.not_false] at hgd))) | (refine gc_Y ?_ ?_ <;> intro _) | fail)
  have hdR6 := hdR.ext hE6
  have hsz := aSize_spec hdR6
  have hsm := aSame_spec hdR6 hdR6
  rw [hdc, ag_size] at hsz
  rw [hdc, ag_same] at hsm
  dsimp only [docV] at hsz hsm
  cases hdR6 with
  | mk h1 h2 h3 h4 h5 h6 =>
  simp only [Dm.c, agD, Dc.mk.injEq, cK_map] at hdc
  obtain ⟨rfl, rfl, hkc⟩ := hdc
  obtain ⟨k1, k2, rfl⟩ : ∃ k1 k2, kids = [k1, k2] := by
    match kids, hkc with
    | [k1, k2], _ => exact ⟨k1, k2, rfl⟩
    | [], h => simp at h
    | [_], h => simp at h
    | _ :: _ :: _ :: _, h => simp at h
  simp only [List.map_cons, List.map_nil, List.cons.injEq, and_true] at hkc
  have hk1 := h3 k1 (by simp)
  obtain ⟨t1, ⟨lv1, hlv1⟩, row1, ⟨kv1, hkv1⟩, kids1⟩ := k1
  obtain ⟨t2, ⟨lv2, hlv2⟩, row2, ⟨kv2, hkv2⟩, kids2⟩ := k2
  simp only [Dm.c, Dc.mk.injEq] at hkc
  obtain ⟨⟨rfl, rfl, _⟩, ⟨rfl, rfl, _⟩⟩ := hkc
  cases hk1 with
  | mk g1 g2 g3 g4 g5 g6 =>
  dsimp only at h1 h2 g1
  have hx0 : (([.mk 1 ⟨lv1, hlv1⟩ [nV 2, nV 1] ⟨kv1, hkv1⟩ kids1, .mk 1 ⟨lv2, hlv2⟩ [nV 3, nV 1] ⟨kv2, hkv2⟩ kids2] : List Dm).map docV)[0]? = some [.int .i64 1, lv1, kv1] := rfl
  have hx1 : (([nV 2, nV 1] : List Vl).map valV)[0]? = some [.int .u8 2, .int .i64 2, .int .u64 0, .string ⟨#[]⟩] := rfl
  have hl0 : 0 < (([.mk 1 ⟨lv1, hlv1⟩ [nV 2, nV 1] ⟨kv1, hkv1⟩ kids1, .mk 1 ⟨lv2, hlv2⟩ [nV 3, nV 1] ⟨kv2, hkv2⟩ kids2] : List Dm).map docV).length := by show (0 : Nat) < 2; decide
  have hl2 : decide (((([.mk 1 ⟨lv1, hlv1⟩ [nV 2, nV 1] ⟨kv1, hkv1⟩ kids1, .mk 1 ⟨lv2, hlv2⟩ [nV 3, nV 1] ⟨kv2, hkv2⟩ kids2] : List Dm).map docV).length : Int) = 2) = true := by show decide (((2 : Nat) : Int) = 2) = true; decide
  have hl3 : decide (((([nV 2, nV 1] : List Vl).map valV).length : Int) = 2) = true := by show decide (((2 : Nat) : Int) = 2) = true; decide
  have hl1 : 0 < (([nV 2, nV 1] : List Vl).map valV).length := by show (0 : Nat) < 2; decide
  refine ok_learn (VwIn.slice (VwIn.there (VwIn.there (VwIn.here h2)))) ?_
  rintro ⟨pk, ck, rfl⟩
  refine ok_learn (VwIn.base (n := 3) (VwIn.there (VwIn.there (VwIn.here h2))) (by simp)) ?_
  rintro ⟨bk, ok', rfl⟩
  refine ok_learn (VwIn.slice (VwIn.there (VwIn.there (VwIn.here g1)))) ?_
  rintro ⟨pl, cl, rfl⟩
  refine ok_learn (VwIn.base (n := 4) (VwIn.there (VwIn.there (VwIn.here g1))) (by simp)) ?_
  rintro ⟨bl, ol, rfl⟩
  have q1 := nV_eq 1
  have q2 := nV_eq 2
  (apply ok_draw [25, 39]; (focus (kernel_rfl)); (focus ((conv => lhs; whnf); first | done | rfl)); (focus (decide +kernel)); (focus (exact (fun _ h => h))))
  repeat' (first | (refine go_Y ?_; intros) | (refine gs_Y ?_ ?_ <;> (intro hgd; try (simp only [Bool.not_true, Bool.not_false] at hgd))) | (refine gc_Y ?_ ?_ <;> intro _) | fail)
  refine clN_Y (num24_spec 2) ?_
  intro _ _
  dsimp only [valV]
  repeat' (first | (refine go_Y ?_; intros) | (refine gs_Y ?_ ?_ <;> (intro hgd; try (simp only [Bool.not_true, Bool.not_false] at hgd))) | (refine gc_Y ?_ ?_ <;> intro _) | fail)
  refine cl_Y (hsz) ?_
  intro _ _
  repeat' (first | (refine go_Y ?_; intros) | (refine gs_Y ?_ ?_ <;> (intro hgd; try (simp only [Bool.not_true, Bool.not_false] at hgd))) | (refine gc_Y ?_ ?_ <;> intro _) | fail)
  refine clN_Y (num24_spec 1) ?_
  intro _ _
  dsimp only [valV]
  repeat' (first | (refine go_Y ?_; intros) | (refine gs_Y ?_ ?_ <;> (intro hgd; try (simp only [Bool.not_true, Bool.not_false] at hgd))) | (refine gc_Y ?_ ?_ <;> intro _) | fail)
  refine cl_Y (hsm) ?_
  intro _ _
  repeat' (first | (refine go_Y ?_; intros) | (refine gs_Y ?_ ?_ <;> (intro hgd; try (simp only [Bool.not_true, Bool.not_false] at hgd))) | (refine gc_Y ?_ ?_ <;> intro _) | fail)
  refine cont_map (fun _ h => ext_in hEA6 (Take.out1 takeD h)) ?_
  (refine rt_Y (y := ()) (hrs := Tryz.results8) (hv := ?_) (hφ := ?_))
  · rfl
  · trivial
end Go.Proofs.YtphaegcoldpclaaGreatDoor
set_option linter.unusedSimpArgs false
set_option linter.unusedVariables false
set_option maxRecDepth 100000
namespace Go.Proofs.YtphaegcoldpclaaGreatDoor
open Go Go.Fx Go.Proofs Go.Pl

structure BtY where
  b : Nat
  bx : Nat
  r : Rl
  P : HProp
theorem both24_bad (vs vo : Value) (ts : List Tb) (ops : List Om) (A : HProp) (hsv : SV A vs ts) (ho : OsR A vo ops) (hc : checkS (ts.map Tb.c) = false) :
    FSpec Tryz.prog 9 [.agg #[vs], vo] [A] Unit (fun _ => True) (fun _ => .tuple #[.pointer none, .pointer none, .bool false]) (fun _ => [A]) := by
  have hnb := new_bad vs ts A hsv hc
  have hvs := hsv.vw
  have f1 : (!decide ((2 : Int) = (0 : Int))) = true := by decide
  refine spec_intro [] _ Tryz.func9 rfl Tryz.ntmps9 (by rfl) (fun w0 R => ?_)
  refine ok_learn (VwIn.slice (VwIn.here hvs)) ?_
  rintro ⟨ps, cs, rfl⟩
  repeat' (first | (refine go_Y ?_; intros) | (refine gs_Y ?_ ?_ <;> (intro hgd; try (simp only [Bool.not_true, Bool.not_false] at hgd))) | (refine gc_Y ?_ ?_ <;> intro _) | fail)
  refine cl_Y (hnb) ?_
  intro _ _
  repeat' (first | (refine go_Y ?_; intros) | (refine gs_Y ?_ ?_ <;> (intro hgd; try (simp only [Bool.not_true, Bool.not_false] at hgd))) | (refine gc_Y ?_ ?_ <;> intro _) | fail)
  (refine rt_Y (y := ()) (hrs := Tryz.results9) (hv := ?_) (hφ := ?_))
  · rfl
  · trivial
set_option maxHeartbeats 8000000 in
theorem both24_ok (vs vo : Value) (ts : List Tb) (ops : List Om) (A : HProp) (hU : UT A) (hsv : SV A vs ts) (ho : OsR A vo ops) (hwops : ∀ q ∈ ops, ∀ v ∈ q.row, v.wf) (hsm : smallS ts ∧ smallO ops) (hc : checkS (ts.map Tb.c) = true) :
    FSpec Tryz.prog 9 [.agg #[vs], vo] [A] BtY (fun y => y.r.Ok ∧ Rl.Wf y.r ∧ y.r.s = ts.map Tb.c ∧ Ext A y.P) (fun y => .tuple #[.pointer (some ⟨y.b, 0, none⟩), .pointer (some ⟨y.bx, 0, none⟩), .bool true])
      (fun y => [relP y.P y.b y.r, rfP y.P y.bx y.r, y.P]) := by
  have hzo := ho.len
  have hvops := ho.vw
  have hopops := fun q (hq : q ∈ ops) => (ho.op q hq).vw
  have lmo : (ops.map opV).length = ops.length := by simp
  have hlops := fun q (hq : q ∈ ops) => hsm.2.2 q hq
  have hnew := new_spec vs ts A hsv hc
  have hvs := hsv.vw
  have f1 : (!decide ((0 : Int) = (0 : Int))) = false := by decide
  refine spec_intro [] _ Tryz.func9 rfl Tryz.ntmps9 (by rfl) (fun w0 R => ?_)
  refine ok_learn (VwIn.slice (VwIn.here hvops)) ?_
  rintro ⟨pv, cv, rfl⟩
  refine ok_learn (VwIn.slice (VwIn.here hvs)) ?_
  rintro ⟨ps, cs, rfl⟩
  repeat' (first | (refine go_Y ?_; intros) | (refine gs_Y ?_ ?_ <;> (intro hgd; try (simp only [Bool.not_true, Bool.not_false] at hgd))) | (refine gc_Y ?_ ?_ <;> intro _) | fail)
  rename_i b2
  refine cl_Y (hnew) ?_
  rintro ⟨b, P1⟩ hE1
  dsimp only at hE1 ⊢
  repeat' (first | (refine go_Y ?_; intros) | (refine gs_Y ?_ ?_ <;> (intro hgd; try (simp only [Bool.not_true, Bool.not_false] at hgd))) | (refine gc_Y ?_ ?_ <;> intro _) | fail)
  have hn14 := new14_spec (.slice ps (ts.map tbV).length cs) ts P1 (hsv.ext hE1) (by have := hsm.1.1; omega) (fun t ht => by have := hsm.1.2 t ht; omega)
  refine cl_Y (hn14) ?_
  rintro ⟨bx, P2⟩ hE2
  dsimp only at hE2 ⊢
  repeat' (first | (refine go_Y ?_; intros) | (refine gs_Y ?_ ?_ <;> (intro hgd; try (simp only [Bool.not_true, Bool.not_false] at hgd))) | (refine gc_Y ?_ ?_ <;> intro _) | fail)
  refine ok_map (fun _ h => relP_ext hE2 (b := b) (r := ⟨ts.map Tb.c, [], 0⟩) (Take.out1 (A := relP P1 b ⟨ts.map Tb.c, [], 0⟩) takeD h)) ?_
  have hA2 := hE1.trans hE2
  refine ok_map (L' := [P2, relP P2 b ⟨ts.map Tb.c, [], 0⟩, rfP P2 bx ⟨ts.map Tb.c, [], 0⟩] ++ R) entD ?_
  refine ok_loop' (γ := Nat × GP ts A) (fun g ρ L => g.1 ≤ ops.length ∧ Knows ρ [(1, .slice pv (ops.map opV).length cv), (7, .pointer (some ⟨b, 0, none⟩)), (9, .pointer (some ⟨bx, 0, none⟩)), (10, .int .i64 g.1)] ∧
      L = [g.2.1.2, relP g.2.1.2 b g.2.1.1, rfP g.2.1.2 bx g.2.1.1] ++ R) (fun g => ops.length - g.1)
    (0, ⟨(⟨ts.map Tb.c, [], 0⟩, P2), Rl.Ok.new hc, new_wf', rfl, hA2⟩) ⟨by simp, ⟨rfl, rfl, rfl, rfl, trivial⟩, rfl⟩ ?_
  rintro ⟨i, ⟨r, P⟩, hokr, hwfr, hsr, hE⟩ ρ L ⟨hi, hk, rfl⟩
  dsimp only at hokr hwfr hsr hE hi hk ⊢
  refine ok_regs hk ?_
  have hUP := hU.ext hE
  cases t1 : decide ((i : Int) < ((ops.map opV).length : Int)) with
  | true =>
    have h0 : i < ops.length := by have := of_decide_eq_true t1; omega
    have hti : ops[i]? = some ops[i] := List.getElem?_eq_getElem h0
    have hx : (ops.map opV)[i]? = some (opV ops[i]) := by rw [List.getElem?_map, hti]; rfl
    have hnn : i < (ops.map opV).length := by omega
    have hmm := List.getElem_mem h0
    have hvw := hE.vw (hopops _ hmm)
    have hwfo := hwops _ hmm
    have hln := hlops _ hmm
    have hvP := hE.vw hvops
    refine ok_learn (VwIn.base (n := 3) (xs := ops.map opV) (VwIn.here hvP) (by intro e; rw [e] at hnn; simp at hnn)) ?_
    rintro ⟨bu, ou, rfl⟩
    generalize ops[i] = q at hx hvw hwfo hln
    obtain ⟨qk, qt, ⟨qv, hqv⟩, qrow⟩ := q
    dsimp only [opV] at hx hvw hwfo hln
    have hdo := relDo_spec b r ⟨qk, qt, qrow⟩ qv P hokr hUP hvw hqv hwfo (by show qrow.length ≤ _; omega)
    have hokn := hokr.doOp ⟨qk, qt, qrow⟩
    have hsn' : (r.doOp ⟨qk, qt, qrow⟩).1.s = ts.map Tb.c := (doOp_s' r _).trans hsr
    have hwn := doOp_wf' hwfr (o := ⟨qk, qt, qrow⟩) hwfo
    repeat' (first | (refine go_Y ?_; intros) | (refine gs_Y ?_ ?_ <;> (intro hgd; try (simp only [Bool.not_true, Bool.not_false] at hgd))) | (refine gc_Y ?_ ?_ <;> intro _) | fail)
    refine cl_Y (hdo) ?_
    rintro ⟨⟨b4, hb4⟩, ⟨a4, ha4⟩, P1'⟩ ⟨hE1', _⟩
    dsimp only at hE1' ⊢
    have hvP1 := hE1'.vw hvP
    have hd2 := do14_spec bx r ⟨qk, qt, qrow⟩ qv P1' hokr hwfr (hUP.ext hE1') (hE1'.vw hvw) hqv hwfo
    refine opsL_mapL (fun _ h => rfP_ext hE1' (b := bx) (r := r) (Take.out1 (A := rfP P bx r) takeD h)) ?_
    repeat' (first | (refine go_Y ?_; intros) | (refine gs_Y ?_ ?_ <;> (intro hgd; try (simp only [Bool.not_true, Bool.not_false] at hgd))) | (refine gc_Y ?_ ?_ <;> intro _) | fail)
    refine cl_Y (hd2) ?_
    rintro ⟨⟨b5, hb5⟩, ⟨a5, ha5⟩, P2'⟩ ⟨hE2', _⟩
    dsimp only at hE2' ⊢
    repeat' (first | (refine go_Y ?_; intros) | (refine gs_Y ?_ ?_ <;> (intro hgd; try (simp only [Bool.not_true, Bool.not_false] at hgd))) | (refine gc_Y ?_ ?_ <;> intro _) | fail)
    refine cont_map (fun _ h => relP_ext hE2' (b := b) (r := (r.doOp ⟨qk, qt, qrow⟩).1) (Take.out1 (A := relP P1' b (r.doOp ⟨qk, qt, qrow⟩).1) takeD h)) ?_
    refine cont_map (L' := [P2', relP P2' b (r.doOp ⟨qk, qt, qrow⟩).1, rfP P2' bx (r.doOp ⟨qk, qt, qrow⟩).1] ++ R) entD ?_
    refine cont_back (i + 1, ⟨((r.doOp ⟨qk, qt, qrow⟩).1, P2'), hokn, hwn, hsn', hE.trans (hE1'.trans hE2')⟩) ⟨h0, ⟨rfl, rfl, rfl, rfl, trivial⟩, rfl⟩ (by show ops.length - (i + 1) < ops.length - i; omega)
  | false =>
    repeat' (first | (refine go_Y ?_; intros) | (refine gs_Y ?_ ?_ <;> (intro hgd; try (simp only [Bool.not_true, Bool.not_false] at hgd))) | (refine gc_Y ?_ ?_ <;> intro _) | fail)
    (refine rt_Y (y := ⟨b, bx, r, P⟩) (hrs := Tryz.results9) (hv := ?_) (hφ := ?_))
    · rfl
    · exact ⟨hokr, hwfr, hsr, hE⟩
theorem rfP_Q {X : Cx} {ops : Array Oper} {nb : NB} {N : Act → World → Prop} {i : Nat} {os : List Oper} {Ls : List HProp} {ds : List Deferred} {ρ : Regs} {L L' : List HProp} {P : HProp} {b : Nat} {r : Rl} (t : Take L [rfP P b r] L') (h : Rl.Q r → OpsL X ops nb N i os Ls ds ρ L) : OpsL X ops nb N i os Ls ds ρ L := by
  refine ops_learn (φ := Rl.Q r) (fun _ s => ?_) h
  obtain ⟨_, _, _, _, _, ⟨y, _⟩, _⟩ := t.out s
  exact ⟨y.1.q, y.2.rq⟩
end Go.Proofs.YtphaegcoldpclaaGreatDoor
set_option linter.unusedSimpArgs false
set_option linter.unusedVariables false
set_option maxRecDepth 100000
namespace Go.Proofs.YtphaegcoldpclaaGreatDoor
open Go Go.Fx Go.Proofs Go.Pl

def ansAt (r : Rl) (p : Pc) : Int × Vl × Bool := match aget p r.rows with
  | none => (0, ⟨0, 0, 0, ⟨#[]⟩⟩, false)
  | some l => rootAns r (p.1, l)
theorem aRoot_any {r : Rl} {R0 : List Pr2} (hR : RowsQ r R0) (hok : r.Ok) (hwf : Rl.Wf r) (b : Nat) (t : Int) (k : Vl) (P : HProp) (hU : UT P) (hkw : k.wf) :
    FSpec Tryz.prog 15 [.pointer (some ⟨b, 0, none⟩), .int .i64 t, .agg (valV k).toArray] [relP P b r, P] HProp (fun y => Ext P y)
      (fun _ => .tuple #[.int .i64 (ansAt r (t, k)).1, .agg (valV (ansAt r (t, k)).2.1).toArray, .bool (ansAt r (t, k)).2.2, .int .i64 (r.getOp t k).2]) (fun y => [relP y b r, y]) := by
  unfold ansAt
  cases hg : aget (t, k) r.rows with
  | none => exact (aRoot_none hok b t k P hU hkw hg).conseq (fun _ _ s => s) (fun _ _ => ⟨P, Ext.refl P, rfl, fun _ _ s => s⟩)
  | some l =>
    rw [getOp_some hR hg]
    exact aRoot_some hR hok hwf b t k l P hU hkw hg
theorem ansAt_root {r : Rl} {R0 : List Pr2} (hR : RowsQ r R0) {p : Pc} {p0 : Pr2} (h : rootAt r p = some p0) : (ansAt r p).2.2 = true ∧ (ansAt r p).1 = p0.1 ∧ (ansAt r p).2.1 = Pl.keyOf r.s p0.1 p0.2 := by
  unfold rootAt at h
  unfold ansAt
  cases hg : aget p r.rows with
  | none => rw [hg] at h; cases h
  | some l =>
    rw [hg] at h
    dsimp only at h ⊢
    rw [rootAns_some h]
    exact ⟨rfl, rfl, rfl⟩
theorem ok_meetT {X : Cx} {ds : List Deferred} {ρ : Regs} {L : List HProp} {Q : Exit → Act → World → Prop} {c : Code} {γ : Type} (I : γ → Regs → List HProp → Prop) (h1 : Ok X c ds ρ L (Meet X I ds Q)) (h2 : ∀ g ρ L, I g ρ L → Cont X Q .normal ds ρ L) : Ok X c ds ρ L Q := by
  refine foldOk fun a w ha hs => ?_
  refine wpIn_mono (unfoldOk h1 a w ha hs) fun e a' w' he => ?_
  unfold Meet at he
  cases e with
  | normal =>
    obtain ⟨g, ρ', L', hI, ha', hs'⟩ := he
    exact unfoldCont (h2 g ρ' L' hI) a' w' ha' hs'
  | _ => exact he
abbrev GPl2 (P : HProp) := { x : HProp // Ext P x }
end Go.Proofs.YtphaegcoldpclaaGreatDoor
set_option linter.unusedSimpArgs false
set_option linter.unusedVariables false
set_option maxRecDepth 100000
namespace Go.Proofs.YtphaegcoldpclaaGreatDoor
open Go Go.Fx Go.Proofs Go.Pl
set_option maxHeartbeats 32000000 in
theorem AggLocal_specA (vs vo : Value) (ts : List Tb) (ops : List Om) (o : Om) (A : HProp) (hU : UT A) (hvc : vs.oneCell' = true) (h : SVr A vs ts) (ho : OsR A vo ops) (h1 : OmR A o)
    (hwops : ∀ q ∈ ops, ∀ v ∈ q.row, v.wf) (hwo : ∀ v ∈ o.row, v.wf) (hk3 : o.kind = 3) :
    FSpec Tryz.prog 5 [.agg #[vs], vo, .agg (opV o).toArray] [A] HProp (fun P' => Ext A P') (fun _ => .bool true) (fun P' => [P']) := by
  have hh1 := heavy14_spec vs vo ts ops A h ho
  have hal0 := fun (P : HProp) (e : Ext A P) => alive24_spec P (hU.ext e)
  obtain ⟨okd, otb, ⟨orv, horv⟩, orow⟩ := o
  dsimp only [opV] at *
  obtain ⟨hcv, hcl, hct⟩ := h1
  dsimp only at hcv hcl hct
  have lr : (orow.map valV).length = orow.length := by simp
  refine spec_intro [] _ Tryz.func5 rfl Tryz.ntmps5 (by rfl) (fun w0 R => ?_)
  refine ok_learn (VwIn.slice (VwIn.here hcv)) ?_
  rintro ⟨po, co, rfl⟩
  refine ok_learn (VwIn.slice (VwIn.here h.vw)) ?_
  rintro ⟨ps, cv, rfl⟩
  repeat' (first | (refine go_Y ?_; intros) | (refine gs_Y ?_ ?_ <;> (intro hgd; try (simp only [Bool.not_true, Bool.not_false] at hgd))) | (refine gc_Y ?_ ?_ <;> intro _) | fail)
  rename_i b3 b5
  refine cl_Y (hh1) ?_
  intro y1 hlg
  cases y1 with
  | true =>
    repeat' (first | (refine go_Y ?_; intros) | (refine gs_Y ?_ ?_ <;> (intro hgd; try (simp only [Bool.not_true, Bool.not_false] at hgd))) | (refine gc_Y ?_ ?_ <;> intro _) | fail)
    refine cl_Y (hal0 A (Ext.refl A)) ?_
    intro _ _
    repeat' (first | (refine go_Y ?_; intros) | (refine gs_Y ?_ ?_ <;> (intro hgd; try (simp only [Bool.not_true, Bool.not_false] at hgd))) | (refine gc_Y ?_ ?_ <;> intro _) | fail)
    (refine rt_Y (y := A) (hrs := Tryz.results5) (hv := ?_) (hφ := ?_))
    · rfl
    · exact Ext.refl A
  | false =>
  have hsm := hlg rfl
  repeat' (first | (refine go_Y ?_; intros) | (refine gs_Y ?_ ?_ <;> (intro hgd; try (simp only [Bool.not_true, Bool.not_false] at hgd))) | (refine gc_Y ?_ ?_ <;> intro _) | fail)
  rename_i w1 hw1
  refine op1_learn (rowShape (e := 64) (n := 3) (v := w1) (xs := [[.int .u8 okd, .int .i64 otb, .slice po (orow.map valV).length co]]) (by decide) takeD) ?_
  rintro (⟨rfl, hn⟩ | ⟨g1, c1, rfl, _⟩)
  · cases hn
  refine op1_map (fun _ h => pool_in (A := row 64 3 (.slice (some ⟨g1, 0, none⟩) 1 c1) [[.int .u8 okd, .int .i64 otb, .slice po (orow.map valV).length co]]) (P := A) (Take.out2 takeD h)) ?_
  have hx1 := Ext.pool (row 64 3 (.slice (some ⟨g1, 0, none⟩) 1 c1) [[.int .u8 okd, .int .i64 otb, .slice po (orow.map valV).length co]]) A
  have hwv1 : Vw (pool (row 64 3 (.slice (some ⟨g1, 0, none⟩) 1 c1) [[.int .u8 okd, .int .i64 otb, .slice po (orow.map valV).length co]]) A) 3 (.slice (some ⟨g1, 0, none⟩) 1 c1) ([⟨okd, otb, ⟨_, horv⟩, orow⟩].map opV) := pool_row
  generalize pool (row 64 3 (.slice (some ⟨g1, 0, none⟩) 1 c1) [[.int .u8 okd, .int .i64 otb, .slice po (orow.map valV).length co]]) A = P0 at hx1 hwv1
  have hU0 := hU.ext hx1
  have hcv0 := hx1.vw hcv
  have hs0 : SVr P0 (.slice ps (ts.map tbV).length cv) ts := h.ext hx1
  have ho0 : OsR P0 vo ops := ⟨hx1.vw ho.vw, fun o hq => ⟨hx1.vw (ho.op o hq).vw, (ho.op o hq).len, (ho.op o hq).txt⟩, ho.len⟩
  have hh2 := heavy14_spec (.slice ps (ts.map tbV).length cv) (.slice (some ⟨g1, 0, none⟩) 1 c1) ts [⟨okd, otb, ⟨_, horv⟩, orow⟩] P0 hs0 ⟨hwv1, fun q hq => by rw [List.mem_singleton] at hq; subst hq; exact ⟨hcv0, hcl, hct⟩, by show (1 : Nat) ≤ _; decide⟩
  have hal := fun (P : HProp) (e : Ext P0 P) => alive24_spec P (hU0.ext e)
  have hEA0 : Ext A P0 := hx1
  clear hwv1 hx1 hcv ho h hU hw1 hh1 hlg hct hcl hal0
  refine cl_Y (hh2) ?_
  intro y2 hlh
  cases y2 with
  | true =>
    repeat' (first | (refine go_Y ?_; intros) | (refine gs_Y ?_ ?_ <;> (intro hgd; try (simp only [Bool.not_true, Bool.not_false] at hgd))) | (refine gc_Y ?_ ?_ <;> intro _) | fail)
    refine cl_Y (hal P0 (Ext.refl P0)) ?_
    intro _ _
    repeat' (first | (refine go_Y ?_; intros) | (refine gs_Y ?_ ?_ <;> (intro hgd; try (simp only [Bool.not_true, Bool.not_false] at hgd))) | (refine gc_Y ?_ ?_ <;> intro _) | fail)
    (refine rt_Y (y := P0) (hrs := Tryz.results5) (hv := ?_) (hφ := ?_))
    · rfl
    · exact hEA0
  | false =>
  have hsn := (hlh rfl).2.2 _ (List.mem_singleton.2 rfl)
  dsimp only at hsn
  have hsv := hs0.sv hsm.1
  cases hck : checkS (ts.map Tb.c) with
  | false =>
    repeat' (first | (refine go_Y ?_; intros) | (refine gs_Y ?_ ?_ <;> (intro hgd; try (simp only [Bool.not_true, Bool.not_false] at hgd))) | (refine gc_Y ?_ ?_ <;> intro _) | fail)
    refine cl_Y (both24_bad (.slice ps (ts.map tbV).length cv) vo ts ops P0 hsv ho0 hck) ?_
    intro _ _
    repeat' (first | (refine go_Y ?_; intros) | (refine gs_Y ?_ ?_ <;> (intro hgd; try (simp only [Bool.not_true, Bool.not_false] at hgd))) | (refine gc_Y ?_ ?_ <;> intro _) | fail)
    refine cl_Y (hal P0 (Ext.refl P0)) ?_
    intro _ _
    repeat' (first | (refine go_Y ?_; intros) | (refine gs_Y ?_ ?_ <;> (intro hgd; try (simp only [Bool.not_true, Bool.not_false] at hgd))) | (refine gc_Y ?_ ?_ <;> intro _) | fail)
    (refine rt_Y (y := P0) (hrs := Tryz.results5) (hv := ?_) (hφ := ?_))
    · rfl
    · exact hEA0
  | true =>
  repeat' (first | (refine go_Y ?_; intros) | (refine gs_Y ?_ ?_ <;> (intro hgd; try (simp only [Bool.not_true, Bool.not_false] at hgd))) | (refine gc_Y ?_ ?_ <;> intro _) | fail)
  refine cl_Y (both24_ok (.slice ps (ts.map tbV).length cv) vo ts ops P0 hU0 hsv ho0 hwops hsm hck) ?_
  rintro ⟨b, bx, r, P⟩ ⟨hok, hwf, hrs, hE⟩
  dsimp only at hok hwf hrs hE ⊢
  refine rfP_Q (P := P) (b := bx) (r := r) takeD fun hQ => ?_
  obtain ⟨R0, hR⟩ := hQ.rows hok
  have hslen : r.s.length ≤ 12 := by obtain ⟨_, _, _, _, h12⟩ := checkS_ok hok.sch; exact h12
  have htsl : ts.length = r.s.length := by rw [hrs, List.length_map]
  have ltm : (ts.map tbV).length = ts.length := by simp
  have hUP := hU0.ext hE
  have hwh := relWhole_spec b r P hok
  cases t1 : decide (otb < 0) with
  | true =>
    repeat' (first | (refine go_Y ?_; intros) | (refine gs_Y ?_ ?_ <;> (intro hgd; try (simp only [Bool.not_true, Bool.not_false] at hgd))) | (refine gc_Y ?_ ?_ <;> intro _) | fail)
    refine cl_Y (hal P hE) ?_
    intro _ _
    repeat' (first | (refine go_Y ?_; intros) | (refine gs_Y ?_ ?_ <;> (intro hgd; try (simp only [Bool.not_true, Bool.not_false] at hgd))) | (refine gc_Y ?_ ?_ <;> intro _) | fail)
    (refine rt_Y (y := P) (hrs := Tryz.results5) (hv := ?_) (hφ := ?_))
    · rfl
    · exact hEA0.trans hE
  | false =>
  cases t2 : decide (((ts.map tbV).length : Int) ≤ otb) with
  | true =>
    repeat' (first | (refine go_Y ?_; intros) | (refine gs_Y ?_ ?_ <;> (intro hgd; try (simp only [Bool.not_true, Bool.not_false] at hgd))) | (refine gc_Y ?_ ?_ <;> intro _) | fail)
    refine cl_Y (hal P hE) ?_
    intro _ _
    repeat' (first | (refine go_Y ?_; intros) | (refine gs_Y ?_ ?_ <;> (intro hgd; try (simp only [Bool.not_true, Bool.not_false] at hgd))) | (refine gc_Y ?_ ?_ <;> intro _) | fail)
    (refine rt_Y (y := P) (hrs := Tryz.results5) (hv := ?_) (hφ := ?_))
    · rfl
    · exact hEA0.trans hE
  | false =>
  have hob := of_decide_eq_false t1
  have hot := of_decide_eq_false t2
  cases hw0 : r.whole with
  | false =>
    rw [hw0, cond_false] at hwh
    have f1 : (!decide ((140 : Int) = (0 : Int))) = true := by decide
    repeat' (first | (refine go_Y ?_; intros) | (refine gs_Y ?_ ?_ <;> (intro hgd; try (simp only [Bool.not_true, Bool.not_false] at hgd))) | (refine gc_Y ?_ ?_ <;> intro _) | fail)
    refine cl_Y (hwh) ?_
    intro _ _
    repeat' (first | (refine go_Y ?_; intros) | (refine gs_Y ?_ ?_ <;> (intro hgd; try (simp only [Bool.not_true, Bool.not_false] at hgd))) | (refine gc_Y ?_ ?_ <;> intro _) | fail)
    refine cl_Y (hal P hE) ?_
    intro _ _
    repeat' (first | (refine go_Y ?_; intros) | (refine gs_Y ?_ ?_ <;> (intro hgd; try (simp only [Bool.not_true, Bool.not_false] at hgd))) | (refine gc_Y ?_ ?_ <;> intro _) | fail)
    (refine rt_Y (y := P) (hrs := Tryz.results5) (hv := ?_) (hφ := ?_))
    · rfl
    · exact hEA0.trans hE
  | true =>
  rw [hw0, cond_true] at hwh
  have f0 : (!decide ((0 : Int) = (0 : Int))) = false := by decide
  have hdo := relDo_spec b r ⟨okd, otb, orow⟩ (.slice po (orow.map valV).length co) P hok hUP (hE.vw hcv0) horv hwo (by show orow.length ≤ _; omega)
  have hok' := hok.doOp ⟨okd, otb, orow⟩
  have hwf' := doOp_wf' hwf (o := ⟨okd, otb, orow⟩) hwo
  have hQ' := hQ.doOp hok hwf (o := ⟨okd, otb, orow⟩) hwo
  have hdid := doOp_did r ⟨okd, otb, orow⟩
  have hsr' : (r.doOp ⟨okd, otb, orow⟩).1.s = r.s := doOp_s' r _
  have hdl := did_len hok ⟨okd, otb, orow⟩ (by show orow.length ≤ _; omega)
  generalize r.doOp ⟨okd, otb, orow⟩ = gg at hdo hok' hwf' hQ' hdid hsr' hdl
  obtain ⟨r', bef, aft, code⟩ := gg
  dsimp only at hdo hok' hwf' hQ' hdid hsr' hdl
  obtain ⟨hdl1, hdl2⟩ := hdl
  repeat' (first | (refine go_Y ?_; intros) | (refine gs_Y ?_ ?_ <;> (intro hgd; try (simp only [Bool.not_true, Bool.not_false] at hgd))) | (refine gc_Y ?_ ?_ <;> intro _) | fail)
  refine cl_Y (hwh) ?_
  intro _ _
  repeat' (first | (refine go_Y ?_; intros) | (refine gs_Y ?_ ?_ <;> (intro hgd; try (simp only [Bool.not_true, Bool.not_false] at hgd))) | (refine gc_Y ?_ ?_ <;> intro _) | fail)
  refine cl_Y (relCopy_spec b r P) ?_
  intro bc _
  repeat' (first | (refine go_Y ?_; intros) | (refine gs_Y ?_ ?_ <;> (intro hgd; try (simp only [Bool.not_true, Bool.not_false] at hgd))) | (refine gc_Y ?_ ?_ <;> intro _) | fail)
  refine cl_Y (hdo) ?_
  rintro ⟨⟨va, hva⟩, ⟨vb, hvb⟩, Q1⟩ ⟨hQ1, hvwa⟩
  dsimp only at hQ1 hvwa ⊢
  refine opsL_mapL (fun _ h => relP_ext hQ1 (b := bc) (r := r) (Take.out1 (A := relP P bc r) takeD h)) ?_
  have hE1 := hE.trans hQ1
  cases hc0 : decide (code = 0) with
  | false =>
    have f1 : (!decide (code = (0 : Int))) = true := by rw [hc0]; rfl
    repeat' (first | (refine go_Y ?_; intros) | (refine gs_Y ?_ ?_ <;> (intro hgd; try (simp only [Bool.not_true, Bool.not_false] at hgd))) | (refine gc_Y ?_ ?_ <;> intro _) | fail)
    refine cl_Y (hal Q1 hE1) ?_
    intro _ _
    repeat' (first | (refine go_Y ?_; intros) | (refine gs_Y ?_ ?_ <;> (intro hgd; try (simp only [Bool.not_true, Bool.not_false] at hgd))) | (refine gc_Y ?_ ?_ <;> intro _) | fail)
    (refine rt_Y (y := Q1) (hrs := Tryz.results5) (hv := ?_) (hφ := ?_))
    · rfl
    · exact hEA0.trans hE1
  | true =>
  obtain rfl := of_decide_eq_true hc0
  have hwh' := relWhole_spec b r' Q1 hok'
  cases hw1 : r'.whole with
  | false =>
    rw [hw1, cond_false] at hwh'
    have f1 : (!decide ((140 : Int) = (0 : Int))) = true := by decide
    repeat' (first | (refine go_Y ?_; intros) | (refine gs_Y ?_ ?_ <;> (intro hgd; try (simp only [Bool.not_true, Bool.not_false] at hgd))) | (refine gc_Y ?_ ?_ <;> intro _) | fail)
    refine cl_Y (hwh') ?_
    intro _ _
    repeat' (first | (refine go_Y ?_; intros) | (refine gs_Y ?_ ?_ <;> (intro hgd; try (simp only [Bool.not_true, Bool.not_false] at hgd))) | (refine gc_Y ?_ ?_ <;> intro _) | fail)
    refine cl_Y (hal Q1 hE1) ?_
    intro _ _
    repeat' (first | (refine go_Y ?_; intros) | (refine gs_Y ?_ ?_ <;> (intro hgd; try (simp only [Bool.not_true, Bool.not_false] at hgd))) | (refine gc_Y ?_ ?_ <;> intro _) | fail)
    (refine rt_Y (y := Q1) (hrs := Tryz.results5) (hv := ?_) (hφ := ?_))
    · rfl
    · exact hEA0.trans hE1
  | true =>
  rw [hw1, cond_true] at hwh'
  obtain ⟨p, hd⟩ : ∃ p, Did r ⟨okd, otb, orow⟩ p r' bef aft := by
    rcases hdid with ⟨h, _⟩ | ⟨_, p, h⟩
    · exact absurd rfl h
    · exact ⟨p, h⟩
  obtain ⟨R', hR'⟩ := hQ'.rows hok'
  have hnear := Did.near hok hd
  obtain ⟨hp1, hph, hone, hk0, hpk⟩ := hd.one hok
  dsimp only at hp1 hph hone hk0
  have hoar : okd ≠ 3 → 0 < aft.length := fun hk3 => by
    obtain ⟨_, hrl, _⟩ := placeS_tab hd.pl
    rcases hd.kind with ⟨_, _, _, e⟩ | ⟨_, _, _, e⟩ | ⟨e, _⟩
    · have h9 := hone; rw [if_neg hk3, e] at h9; rw [e]; exact Nat.lt_of_le_of_lt (Nat.zero_le _) (List.getElem?_eq_some_iff.1 h9).1
    · have h9 := hone; rw [if_neg hk3, e] at h9; rw [e]; exact Nat.lt_of_le_of_lt (Nat.zero_le _) (List.getElem?_eq_some_iff.1 h9).1
    · exact absurd e hk3
  have haf3 : okd = 3 → aft = [] := fun hk3 => by
    rcases hd.kind with ⟨e, _⟩ | ⟨e, _⟩ | ⟨_, _, _, e⟩
    · dsimp only at e; omega
    · dsimp only at e; omega
    · exact e
  have hpw : p.2.wf := by
    by_cases hk3 : okd = 3
    · rw [if_pos hk3] at hone
      have h9 := hd.was
      cases hg : aget p r.rows with
      | none => rw [hg] at h9; rw [h9] at hone; simp at hone
      | some l => rw [hg] at h9; rw [h9] at hone; exact hwf _ (aget_mem hg) _ (List.mem_of_getElem? hone)
    · rw [if_neg hk3] at hone
      have h9 : aft = orow := by
        rcases hd.kind with ⟨_, _, _, e⟩ | ⟨_, _, _, e⟩ | ⟨e, _⟩
        · exact e
        · exact e
        · exact absurd e hk3
      rw [h9] at hone
      exact hwo _ (List.mem_of_getElem? hone)
  have hsvQ1 := hsv.ext hE1
  obtain ⟨um, tbu, hum, hut, hux, hul, huta, hutok, _⟩ := hasS_tb (ts := ts) (k := otb) (by rw [← hrs]; exact hph)
  rw [← hrs] at huta
  rw [huta] at hone hk0
  have hum' : otb = (um : Int) := hum
  clear hum
  subst hum'
  obtain ⟨utn, ucols, ⟨utcv, hutcv⟩, utkey, uref, upar⟩ := tbu
  dsimp only [tbV, Tb.c] at hux hone hk0
  obtain ⟨km, rfl⟩ : ∃ km : Nat, utkey = km := ⟨utkey.toNat, by omega⟩
  rw [Int.toNat_natCast] at hone
  obtain ⟨pt, pk⟩ := p
  dsimp only at hp1 hone hpw
  subst hp1
  have hvwQ := hsvQ1.vw
  refine opsL_mapL (L' := [row 28 4 vb (aft.map valV), relP Q1 b r', Q1, relP Q1 bc r, pts b5 (.cells [.int .u8 okd, .int .i64 (um : Int), .slice po (orow.map valV).length co].toArray 64), pts b3 (.cells [.slice ps (ts.map tbV).length cv].toArray 24)] ++ R) entD ?_
  refine ops_learn (rowShapeS (e := 28) (n := 4) (v := vb) (xs := aft.map valV) (by decide) takeD) ?_
  rintro ⟨pb, cb, rfl, hcb, hsb⟩
  refine ops_poolR (ty := 28) (n := 4) (v := .slice pb (aft.map valV).length cb) (xs := aft.map valV) (P := Q1) takeD ?_
  intro Q2 hQ2 hvwb
  refine opsL_mapL (fun _ h => relP_ext hQ2 (b := bc) (r := r) (Take.out1 (A := relP Q1 bc r) takeD h)) ?_
  refine opsL_mapL (fun _ h => relP_ext hQ2 (b := b) (r := r') (Take.out1 (A := relP Q1 b r') takeD h)) ?_
  have hwh' := relWhole_spec b r' Q2 hok'
  rw [hw1, cond_true] at hwh'
  have hE2 := hE1.trans hQ2
  have hU2 := hU0.ext hE2
  have hvwa2 := hQ2.vw hvwa
  have hvw2 := hQ2.vw hvwQ
  have lba : (aft.map valV).length = aft.length := by simp
  have lbb : (bef.map valV).length = bef.length := by simp
  refine ops_learn (VwIn.slice (n := 5) (v := .slice ps (ts.map tbV).length cv) (xs := ts.map tbV) (VwIn.there (VwIn.there (VwIn.here hvw2)))) ?_
  rintro ⟨ps, cv, e9⟩
  simp only [Value.slice.injEq, true_and] at e9
  obtain ⟨rfl, rfl⟩ := e9
  have hrA := fun Q (e : Ext Q2 Q) => aRoot_any hR hok hwf bc (um : Int) pk Q (hU2.ext e) hpw
  have hrB := fun Q (e : Ext Q2 Q) => aRoot_any hR' hok' hwf' b (um : Int) pk Q (hU2.ext e) hpw
  have hansA := fun p0 => ansAt_root (p0 := p0) hR (p := ((um : Int), pk))
  have hansB := fun p0 => ansAt_root (p0 := p0) hR' (p := ((um : Int), pk))
  rw [hsr'] at hansB
  obtain ⟨⟨a, ak, had⟩, hzA⟩ : ∃ z, z = ansAt r ((um : Int), pk) := ⟨_, rfl⟩
  obtain ⟨⟨c, ck, has⟩, hzB⟩ : ∃ z, z = ansAt r' ((um : Int), pk) := ⟨_, rfl⟩
  rw [← hzA] at hrA hansA
  rw [← hzB] at hrB hansB
  clear hzA hzB
  generalize (r.getOp (um : Int) pk).2 = eA at hrA
  generalize (r'.getOp (um : Int) pk).2 = eB at hrB
  dsimp only at hrA hrB hansA hansB
  -- the row that tells the place, wherever it stands
  have hfin : ∀ (vq : Value) (l1 : List Vl), (vq = va ∧ l1 = bef ∧ okd = 3) ∨ (vq = .slice pb (aft.map valV).length cb ∧ l1 = aft ∧ okd ≠ 3) → Vw Q2 4 vq (l1.map valV) ∧ l1[km]? = some pk := by
    intro vq l1 hq
    rcases hq with ⟨rfl, rfl, e⟩ | ⟨rfl, rfl, e⟩
    · rw [if_pos e] at hone; exact ⟨hvwa2, hone⟩
    · rw [if_neg e] at hone; exact ⟨hvwb, hone⟩
  · have haf := haf3 hk3
    subst haf
    obtain ⟨hq1, hq2⟩ := hfin va bef (.inl ⟨rfl, rfl, hk3⟩)
    have g1 : decide ((0 : Int) < ((([] : List Vl).map valV).length : Int)) = false := by decide
    refine ops_learn (VwIn.slice (n := 4) (v := va) (xs := bef.map valV) (VwIn.there (VwIn.there (VwIn.here hvwa2)))) ?_
    rintro ⟨pq, cq, rfl⟩
    have hkl := (List.getElem?_eq_some_iff.1 hq2).1
    have hxk : (bef.map valV)[km]? = some (valV pk) := by rw [List.getElem?_map, hq2]; rfl
    have hnk : km < (bef.map valV).length := by omega
    have g2 : decide (((bef.map valV).length : Int) ≤ (km : Int)) = false := by simp only [decide_eq_false_iff_not]; omega
    refine ops_learn (VwIn.base (n := 4) (xs := bef.map valV) (VwIn.there (VwIn.there (VwIn.here hq1))) (by intro e; rw [e] at hnk; simp at hnk)) ?_
    rintro ⟨bq, oq, rfl⟩
    refine ops_learn (VwIn.base (n := 5) (xs := ts.map tbV) (VwIn.there (VwIn.there (VwIn.here hvw2))) (by intro e; rw [e] at hul; simp at hul)) ?_
    rintro ⟨bv, ov, rfl⟩
    have hpkk : ∃ z, z = pk := ⟨_, rfl⟩
    obtain ⟨pk0, hpk0⟩ := hpkk
    obtain ⟨pkk, pki, pkr, pks⟩ := pk
    obtain ⟨ak, ai, ar, as0⟩ := ak
    obtain ⟨ck, ci, cr, cs0⟩ := ck
    dsimp only [valV] at hxk hrA hrB
    repeat' (first | (refine go_Y ?_; intros) | (refine gs_Y ?_ ?_ <;> (intro hgd; try (simp only [Bool.not_true, Bool.not_false] at hgd))) | (refine gc_Y ?_ ?_ <;> intro _) | fail)
    refine cl_Y (hwh') ?_
    intro _ _
    repeat' (first | (refine go_Y ?_; intros) | (refine gs_Y ?_ ?_ <;> (intro hgd; try (simp only [Bool.not_true, Bool.not_false] at hgd))) | (refine gc_Y ?_ ?_ <;> intro _) | fail)
    refine ok_map (L' := [relP Q2 b r', relP Q2 bc r, Q2, pts b5 (.cells [.int .u8 okd, .int .i64 (um : Int), .slice po (orow.map valV).length co].toArray 64), pts b3 (.cells [.slice (some ⟨bv, ov, none⟩) (ts.map tbV).length cv].toArray 24)] ++ R) entD ?_
    refine ok_meetT (γ := { g : Nat × HProp // Ext Q2 g.2 }) (fun g ρ L => Knows ρ [(3, .pointer (some ⟨b3, 0, none⟩)), (5, .pointer (some ⟨b5, 0, none⟩)), (7, .pointer (some ⟨b, 0, none⟩)), (10, .pointer (some ⟨bc, 0, none⟩)), (14, .int .i64 (km : Int)), (15, .slice (some ⟨bq, oq, none⟩) (bef.map valV).length cq), (16, .int .i64 a), (17, .pointer (some ⟨g.1.1, 0, none⟩)), (18, .bool had)] ∧
        L = [relP g.1.2 b r', relP g.1.2 bc r, g.1.2, pts b5 (.cells [.int .u8 okd, .int .i64 (um : Int), .slice po (orow.map valV).length co].toArray 64), pts b3 (.cells [.slice (some ⟨bv, ov, none⟩) (ts.map tbV).length cv].toArray 24), pts g.1.1 (.cells [.int .u8 ak, .int .i64 ai, .int .u64 ar, .string as0].toArray 28)] ++ R) ?_ ?_
    · refine ok_draw_forkQ (cv := []) 7 13 [7, 13] [Q2, pts b5 (.cells [.int .u8 okd, .int .i64 (um : Int), .slice po (orow.map valV).length co].toArray 64)] (by decide) (by kernel_rfl) rfl (by decide +kernel) (by decide +kernel) (takePre takeD) ?_
      repeat' (first | (refine go_Y ?_; intros) | (refine gs_Y ?_ ?_ <;> (intro hgd; try (simp only [Bool.not_true, Bool.not_false] at hgd))) | (refine gc_Y ?_ ?_ <;> intro _) | fail)
      have hrA1 := hrA Q2 (Ext.refl Q2)
      refine cont_forkQ (cv := []) rfl (by decide) rfl rfl rfl rfl rfl rfl (takePre takeD) (by decide +kernel) (by decide +kernel) ?_ ?_
      · repeat' (first | (refine go_Y ?_; intros) | (refine gs_Y ?_ ?_ <;> (intro hgd; try (simp only [Bool.not_true, Bool.not_false] at hgd))) | (refine gc_Y ?_ ?_ <;> intro _) | fail)
        refine ops_run (s_call_nb (by (repeat (first | exact EvA.nil | (apply EvA.cons; (focus ((conv => lhs; whnf); first | done | rfl)))))) hrA1 takeD rfl (fun y hy h s => ext_in hy (takePre (pre := [y, pts b5 (.cells [.int .u8 okd, .int .i64 (um : Int), .slice po (orow.map valV).length co].toArray 64)]) takeD h s)) ?_)
        intro Q3 hQ3
        repeat' (first | (refine go_Y ?_; intros) | (refine gs_Y ?_ ?_ <;> (intro hgd; try (simp only [Bool.not_true, Bool.not_false] at hgd))) | (refine gc_Y ?_ ?_ <;> intro _) | fail)
        refine ops_run (s_alloc_nb rfl rfl (fun h s => ext_in hQ3 (takePre (pre := [Q3, pts b5 (.cells [.int .u8 okd, .int .i64 (um : Int), .slice po (orow.map valV).length co].toArray 64)]) takeD h s)) ?_)
        intro b17
        repeat' (first | (refine go_Y ?_; intros) | (refine gs_Y ?_ ?_ <;> (intro hgd; try (simp only [Bool.not_true, Bool.not_false] at hgd))) | (refine gc_Y ?_ ?_ <;> intro _) | fail)
        refine cont_map (fun _ h => relP_ext hQ3 (b := b) (r := r') (Take.out1 (A := relP Q2 b r') takeD h)) ?_
        refine cont_map (L' := [relP Q3 b r', relP Q3 bc r, Q3, pts b5 (.cells [.int .u8 okd, .int .i64 (um : Int), .slice po (orow.map valV).length co].toArray 64), pts b3 (.cells [.slice (some ⟨bv, ov, none⟩) (ts.map tbV).length cv].toArray 24), pts b17 (.cells [.int .u8 ak, .int .i64 ai, .int .u64 ar, .string as0].toArray 28)] ++ R) entD ?_
        exact cont_meet ⟨(b17, Q3), hQ3⟩ ⟨⟨rfl, rfl, rfl, rfl, rfl, rfl, rfl, rfl, rfl, trivial⟩, rfl⟩
      · intro b17
        repeat' (first | (refine go_Y ?_; intros) | (refine gs_Y ?_ ?_ <;> (intro hgd; try (simp only [Bool.not_true, Bool.not_false] at hgd))) | (refine gc_Y ?_ ?_ <;> intro _) | fail)
        refine ops_run (s_call_nb (by (repeat (first | exact EvA.nil | (apply EvA.cons; (focus ((conv => lhs; whnf); first | done | rfl)))))) hrA1 takeD rfl (fun y hy h s => ext_in hy (takePre (pre := [y, pts b5 (.cells [.int .u8 okd, .int .i64 (um : Int), .slice po (orow.map valV).length co].toArray 64)]) takeD h s)) ?_)
        intro Q3 hQ3
        repeat' (first | (refine go_Y ?_; intros) | (refine gs_Y ?_ ?_ <;> (intro hgd; try (simp only [Bool.not_true, Bool.not_false] at hgd))) | (refine gc_Y ?_ ?_ <;> intro _) | fail)
        refine cont_late rfl ?_
        repeat' (first | (refine go_Y ?_; intros) | (refine gs_Y ?_ ?_ <;> (intro hgd; try (simp only [Bool.not_true, Bool.not_false] at hgd))) | (refine gc_Y ?_ ?_ <;> intro _) | fail)
        refine cont_map (fun _ h => relP_ext hQ3 (b := b) (r := r') (Take.out1 (A := relP Q2 b r') takeD h)) ?_
        refine cont_map (L' := [relP Q3 b r', relP Q3 bc r, Q3, pts b5 (.cells [.int .u8 okd, .int .i64 (um : Int), .slice po (orow.map valV).length co].toArray 64), pts b3 (.cells [.slice (some ⟨bv, ov, none⟩) (ts.map tbV).length cv].toArray 24), pts b17 (.cells [.int .u8 ak, .int .i64 ai, .int .u64 ar, .string as0].toArray 28)] ++ R) entD ?_
        exact cont_meet ⟨(b17, Q3), hQ3⟩ ⟨⟨rfl, rfl, rfl, rfl, rfl, rfl, rfl, rfl, rfl, trivial⟩, rfl⟩
    rintro ⟨⟨b17, Q3⟩, hQ3⟩ ρ L ⟨hk, rfl⟩
    dsimp only at hQ3 hk ⊢
    refine cont_regs hk ?_
    have hq3 := hQ3.vw hq1
    repeat' (first | (refine go_Y ?_; intros) | (refine gs_Y ?_ ?_ <;> (intro hgd; try (simp only [Bool.not_true, Bool.not_false] at hgd))) | (refine gc_Y ?_ ?_ <;> intro _) | fail)
    refine ok_meetT (γ := { g : Nat × HProp // Ext Q3 g.2 }) (fun g ρ L => Knows ρ [(3, .pointer (some ⟨b3, 0, none⟩)), (7, .pointer (some ⟨b, 0, none⟩)), (10, .pointer (some ⟨bc, 0, none⟩)), (16, .int .i64 a), (17, .pointer (some ⟨b17, 0, none⟩)), (18, .bool had), (20, .int .i64 c), (21, .pointer (some ⟨g.1.1, 0, none⟩)), (22, .bool has)] ∧
        L = [relP g.1.2 b r', relP g.1.2 bc r, g.1.2, pts b3 (.cells [.slice (some ⟨bv, ov, none⟩) (ts.map tbV).length cv].toArray 24), pts b17 (.cells [.int .u8 ak, .int .i64 ai, .int .u64 ar, .string as0].toArray 28), pts g.1.1 (.cells [.int .u8 ck, .int .i64 ci, .int .u64 cr, .string cs0].toArray 28)] ++ R) ?_ ?_
    · refine ok_draw_forkQ (cv := []) 7 13 [7, 13] [Q3, pts b5 (.cells [.int .u8 okd, .int .i64 (um : Int), .slice po (orow.map valV).length co].toArray 64)] (by decide) (by kernel_rfl) rfl (by decide +kernel) (by decide +kernel) (takePre takeD) ?_
      repeat' (first | (refine go_Y ?_; intros) | (refine gs_Y ?_ ?_ <;> (intro hgd; try (simp only [Bool.not_true, Bool.not_false] at hgd))) | (refine gc_Y ?_ ?_ <;> intro _) | fail)
      have hrB1 := hrB Q3 hQ3
      refine cont_forkQ (cv := []) rfl (by decide) rfl rfl rfl rfl rfl rfl (takePre takeD) (by decide +kernel) (by decide +kernel) ?_ ?_
      · repeat' (first | (refine go_Y ?_; intros) | (refine gs_Y ?_ ?_ <;> (intro hgd; try (simp only [Bool.not_true, Bool.not_false] at hgd))) | (refine gc_Y ?_ ?_ <;> intro _) | fail)
        refine ops_run (s_call_nb (by (repeat (first | exact EvA.nil | (apply EvA.cons; (focus ((conv => lhs; whnf); first | done | rfl)))))) hrB1 takeD rfl (fun y hy h s => ext_in hy (takePre (pre := [y, pts b5 (.cells [.int .u8 okd, .int .i64 (um : Int), .slice po (orow.map valV).length co].toArray 64)]) takeD h s)) ?_)
        intro Q4 hQ4
        repeat' (first | (refine go_Y ?_; intros) | (refine gs_Y ?_ ?_ <;> (intro hgd; try (simp only [Bool.not_true, Bool.not_false] at hgd))) | (refine gc_Y ?_ ?_ <;> intro _) | fail)
        refine ops_run (s_alloc_nb rfl rfl (fun h s => ext_in hQ4 (takePre (pre := [Q4, pts b5 (.cells [.int .u8 okd, .int .i64 (um : Int), .slice po (orow.map valV).length co].toArray 64)]) takeD h s)) ?_)
        intro b21
        repeat' (first | (refine go_Y ?_; intros) | (refine gs_Y ?_ ?_ <;> (intro hgd; try (simp only [Bool.not_true, Bool.not_false] at hgd))) | (refine gc_Y ?_ ?_ <;> intro _) | fail)
        refine cont_map (fun _ h => relP_ext hQ4 (b := bc) (r := r) (Take.out1 (A := relP Q3 bc r) takeD h)) ?_
        refine cont_map (L' := [relP Q4 b r', relP Q4 bc r, Q4, pts b3 (.cells [.slice (some ⟨bv, ov, none⟩) (ts.map tbV).length cv].toArray 24), pts b17 (.cells [.int .u8 ak, .int .i64 ai, .int .u64 ar, .string as0].toArray 28), pts b21 (.cells [.int .u8 ck, .int .i64 ci, .int .u64 cr, .string cs0].toArray 28)] ++ R) entD ?_
        exact cont_meet ⟨(b21, Q4), hQ4⟩ ⟨⟨rfl, rfl, rfl, rfl, rfl, rfl, rfl, rfl, rfl, trivial⟩, rfl⟩
      · intro b21
        repeat' (first | (refine go_Y ?_; intros) | (refine gs_Y ?_ ?_ <;> (intro hgd; try (simp only [Bool.not_true, Bool.not_false] at hgd))) | (refine gc_Y ?_ ?_ <;> intro _) | fail)
        refine ops_run (s_call_nb (by (repeat (first | exact EvA.nil | (apply EvA.cons; (focus ((conv => lhs; whnf); first | done | rfl)))))) hrB1 takeD rfl (fun y hy h s => ext_in hy (takePre (pre := [y, pts b5 (.cells [.int .u8 okd, .int .i64 (um : Int), .slice po (orow.map valV).length co].toArray 64)]) takeD h s)) ?_)
        intro Q4 hQ4
        repeat' (first | (refine go_Y ?_; intros) | (refine gs_Y ?_ ?_ <;> (intro hgd; try (simp only [Bool.not_true, Bool.not_false] at hgd))) | (refine gc_Y ?_ ?_ <;> intro _) | fail)
        refine cont_late rfl ?_
        repeat' (first | (refine go_Y ?_; intros) | (refine gs_Y ?_ ?_ <;> (intro hgd; try (simp only [Bool.not_true, Bool.not_false] at hgd))) | (refine gc_Y ?_ ?_ <;> intro _) | fail)
        refine cont_map (fun _ h => relP_ext hQ4 (b := bc) (r := r) (Take.out1 (A := relP Q3 bc r) takeD h)) ?_
        refine cont_map (L' := [relP Q4 b r', relP Q4 bc r, Q4, pts b3 (.cells [.slice (some ⟨bv, ov, none⟩) (ts.map tbV).length cv].toArray 24), pts b17 (.cells [.int .u8 ak, .int .i64 ai, .int .u64 ar, .string as0].toArray 28), pts b21 (.cells [.int .u8 ck, .int .i64 ci, .int .u64 cr, .string cs0].toArray 28)] ++ R) entD ?_
        exact cont_meet ⟨(b21, Q4), hQ4⟩ ⟨⟨rfl, rfl, rfl, rfl, rfl, rfl, rfl, rfl, rfl, trivial⟩, rfl⟩
    rintro ⟨⟨b21, Q4⟩, hQ4⟩ ρ L ⟨hk, rfl⟩
    dsimp only at hQ4 hk ⊢
    refine cont_regs hk ?_
    repeat' (first | (refine go_Y ?_; intros) | (refine gs_Y ?_ ?_ <;> (intro hgd; try (simp only [Bool.not_true, Bool.not_false] at hgd))) | (refine gc_Y ?_ ?_ <;> intro _) | fail)
    have hE4 := hE2.trans (hQ3.trans hQ4)
    have hsv4 := hsv.ext hE4
    refine ok_map (L' := [relP Q4 b r', relP Q4 bc r, Q4, pts b3 (.cells [.slice (some ⟨bv, ov, none⟩) (ts.map tbV).length cv].toArray 24), pts b17 (.cells [.int .u8 ak, .int .i64 ai, .int .u64 ar, .string as0].toArray 28), pts b21 (.cells [.int .u8 ck, .int .i64 ci, .int .u64 cr, .string cs0].toArray 28)] ++ R) entD ?_
    refine ok_loop' (γ := Nat × GPl2 Q4) (fun g ρ L => g.1 ≤ ts.length ∧ Knows ρ [(3, .pointer (some ⟨b3, 0, none⟩)), (7, .pointer (some ⟨b, 0, none⟩)), (10, .pointer (some ⟨bc, 0, none⟩)), (16, .int .i64 a), (17, .pointer (some ⟨b17, 0, none⟩)), (18, .bool had), (20, .int .i64 c), (21, .pointer (some ⟨b21, 0, none⟩)), (22, .bool has), (24, .int .i64 (g.1 : Int))] ∧
        L = [relP g.2.1 b r', relP g.2.1 bc r, g.2.1, pts b3 (.cells [.slice (some ⟨bv, ov, none⟩) (ts.map tbV).length cv].toArray 24), pts b17 (.cells [.int .u8 ak, .int .i64 ai, .int .u64 ar, .string as0].toArray 28), pts b21 (.cells [.int .u8 ck, .int .i64 ci, .int .u64 cr, .string cs0].toArray 28)] ++ R) (fun g => ts.length - g.1)
      (0, ⟨Q4, Ext.refl Q4⟩) ⟨by simp, ⟨rfl, rfl, rfl, rfl, rfl, rfl, rfl, rfl, rfl, rfl, trivial⟩, rfl⟩ ?_
    rintro ⟨m, ⟨Q, hQQ⟩⟩ ρ L ⟨hm, hk, rfl⟩
    dsimp only at hm hk ⊢
    refine ok_regs hk ?_
    have hEQ := hE4.trans hQQ
    cases t3 : decide ((m : Int) < ((ts.map tbV).length : Int)) with
    | false =>
      repeat' (first | (refine go_Y ?_; intros) | (refine gs_Y ?_ ?_ <;> (intro hgd; try (simp only [Bool.not_true, Bool.not_false] at hgd))) | (refine gc_Y ?_ ?_ <;> intro _) | fail)
      refine cl_Y (hal Q hEQ) ?_
      intro _ _
      repeat' (first | (refine go_Y ?_; intros) | (refine gs_Y ?_ ?_ <;> (intro hgd; try (simp only [Bool.not_true, Bool.not_false] at hgd))) | (refine gc_Y ?_ ?_ <;> intro _) | fail)
      (refine rt_Y (y := Q) (hrs := Tryz.results5) (hv := ?_) (hφ := ?_))
      · rfl
      · exact hEA0.trans hEQ
    | true =>
    have hm0 : m < ts.length := by have := of_decide_eq_true t3; omega
    have hmx : (ts.map tbV)[m]? = some (tbV ts[m]) := by rw [List.getElem?_map, List.getElem?_eq_getElem hm0]; rfl
    have hmn : m < (ts.map tbV).length := by omega
    have htai : tabAt r.s (m : Int) = ts[m].c := by
      rw [hrs]
      unfold tabAt
      rw [Int.toNat_natCast, List.getElem?_map, List.getElem?_eq_getElem hm0]; rfl
    repeat' (first | (refine go_Y ?_; intros) | (refine gs_Y ?_ ?_ <;> (intro hgd; try (simp only [Bool.not_true, Bool.not_false] at hgd))) | (refine gc_Y ?_ ?_ <;> intro _) | fail)
    refine cl_Y (relRows_spec b r' (m : Int) Q hok' hwf') ?_
    rintro ⟨⟨vl, hvl⟩, l, Q5⟩ ⟨hQ5, hlw, hlo⟩
    dsimp only at hQ5 hlw hlo ⊢
    refine opsL_mapL (fun _ h => relP_ext hQ5 (b := bc) (r := r) (Take.out1 (A := relP Q bc r) takeD h)) ?_
    have hll := rowsAt_len hok' (m : Int) (fun _ => true)
    have hll2 := hlo.perm.length_eq
    rw [List.length_map] at hll2
    have hlo := hlo.uniq (hR'.ord (m : Int) _) rfl (.refl _)
    have llm : (l.map rwV).length = l.length := by simp
    have hE5 := hEQ.trans hQ5
    refine ops_learn (rowShapeS (e := 42) (n := 1) (v := vl) (xs := l.map rwV) (by decide) takeD) ?_
    rintro ⟨pl, cl, rfl, hcl, hsl⟩
    repeat' (first | (refine go_Y ?_; intros) | (refine gs_Y ?_ ?_ <;> (intro hgd; try (simp only [Bool.not_true, Bool.not_false] at hgd))) | (refine gc_Y ?_ ?_ <;> intro _) | fail)
    refine ok_map (L' := [relP Q5 b r', relP Q5 bc r, Q5, pts b3 (.cells [.slice (some ⟨bv, ov, none⟩) (ts.map tbV).length cv].toArray 24), pts b17 (.cells [.int .u8 ak, .int .i64 ai, .int .u64 ar, .string as0].toArray 28), pts b21 (.cells [.int .u8 ck, .int .i64 ci, .int .u64 cr, .string cs0].toArray 28), row 42 1 (.slice pl (l.map rwV).length cl) (l.map rwV)] ++ R) entD ?_
    refine ok_loop' (γ := Nat × GPl2 Q5) (fun g ρ L => g.1 ≤ l.length ∧ Knows ρ [(3, .pointer (some ⟨b3, 0, none⟩)), (7, .pointer (some ⟨b, 0, none⟩)), (10, .pointer (some ⟨bc, 0, none⟩)), (16, .int .i64 a), (17, .pointer (some ⟨b17, 0, none⟩)), (18, .bool had), (20, .int .i64 c), (21, .pointer (some ⟨b21, 0, none⟩)), (22, .bool has), (24, .int .i64 (m : Int)), (25, .slice pl (l.map rwV).length cl), (26, .int .i64 (g.1 : Int))] ∧
        L = [relP g.2.1 b r', relP g.2.1 bc r, g.2.1, pts b3 (.cells [.slice (some ⟨bv, ov, none⟩) (ts.map tbV).length cv].toArray 24), pts b17 (.cells [.int .u8 ak, .int .i64 ai, .int .u64 ar, .string as0].toArray 28), pts b21 (.cells [.int .u8 ck, .int .i64 ci, .int .u64 cr, .string cs0].toArray 28), row 42 1 (.slice pl (l.map rwV).length cl) (l.map rwV)] ++ R) (fun g => l.length - g.1)
      (0, ⟨Q5, Ext.refl Q5⟩) ⟨by simp, ⟨rfl, rfl, rfl, rfl, rfl, rfl, rfl, rfl, rfl, rfl, rfl, rfl, trivial⟩, rfl⟩ ?_
    rintro ⟨j, ⟨Q6, hQ6⟩⟩ ρ L ⟨hj, hk, rfl⟩
    dsimp only at hj hk ⊢
    refine ok_regs hk ?_
    have hE6 := hE5.trans hQ6
    have hvw6 := (hsv.ext hE6).vw
    cases t4 : decide ((j : Int) < ((l.map rwV).length : Int)) with
    | false =>
      repeat' (first | (refine go_Y ?_; intros) | (refine gs_Y ?_ ?_ <;> (intro hgd; try (simp only [Bool.not_true, Bool.not_false] at hgd))) | (refine gc_Y ?_ ?_ <;> intro _) | fail)
      refine cont_map (L' := [relP Q6 b r', relP Q6 bc r, Q6, pts b3 (.cells [.slice (some ⟨bv, ov, none⟩) (ts.map tbV).length cv].toArray 24), pts b17 (.cells [.int .u8 ak, .int .i64 ai, .int .u64 ar, .string as0].toArray 28), pts b21 (.cells [.int .u8 ck, .int .i64 ci, .int .u64 cr, .string cs0].toArray 28)] ++ R) entD ?_
      refine cont_back (m + 1, ⟨Q6, hQQ.trans (hQ5.trans hQ6)⟩) ⟨hm0, ⟨rfl, rfl, rfl, rfl, rfl, rfl, rfl, rfl, rfl, rfl, trivial⟩, rfl⟩ (by show ts.length - (m + 1) < ts.length - m; omega)
    | true =>
    have hj0 : j < l.length := by have := of_decide_eq_true t4; omega
    have hlj : l[j]? = some l[j] := List.getElem?_eq_getElem hj0
    have hjx : (l.map rwV)[j]? = some (rwV l[j]) := by rw [List.getElem?_map, hlj]; rfl
    have hjn : j < (l.map rwV).length := by omega
    have hmR : ((m : Int), l[j].2) ∈ R' := (mem_ofR.1 (by rw [← hlo]; exact List.mem_map_of_mem (List.getElem_mem hj0))).1
    have hlv := hQ6.vw (hlw _ (List.getElem_mem hj0))
    refine ok_learn (VwIn.base (n := 1) (p := pl) (len := (l.map rwV).length) (cap := cl) (xs := l.map rwV) (VwIn.there (VwIn.there (VwIn.there (VwIn.there (VwIn.there (VwIn.there (VwIn.here Vw.row))))))) (by intro e; rw [e] at hjn; simp at hjn)) ?_
    rintro ⟨bl, ol, rfl⟩
    generalize l[j] = x at hlj hjx hmR hlv
    obtain ⟨⟨xv, hxv⟩, xl⟩ := x
    dsimp only [rwV] at hjx hmR hlv
    have hro := hR'.row _ hmR
    dsimp only at hro
    rw [hsr'] at hro
    obtain ⟨hk1, hk2, hlen⟩ := rowS_key hro
    have hgm := (hR'.mem _).1 hmR
    have hgm' : aget ((m : Int), Pl.keyOf r.s (m : Int) xl) r'.rows = some xl := by rw [← hsr']; exact hgm
    have hkw : (Pl.keyOf r.s (m : Int) xl).wf := hwf' _ (aget_mem hgm') _ (List.mem_of_getElem? hk2)
    have hU6 := hU0.ext hE6
    have hloc := fun (hr0 : (tabAt r.s (m : Int)).par < 0) h5 h6 => doc_local hnear hR hR' (p0 := ((m : Int), xl)) hmR hr0 h5 h6 r.s.length
    have hofA := fun Q (e : Ext Q6 Q) h5 => aOf_some hR hok hwf bc (m : Int) (Pl.keyOf r.s (m : Int) xl) xl Q (hU6.ext e) hkw h5
    have hofB := fun Q (e : Ext Q6 Q) => aOf_some hR' hok' hwf' b (m : Int) (Pl.keyOf r.s (m : Int) xl) xl Q (hU6.ext e) hkw hgm'
    rw [hsr'] at hofB hloc
    have hmemA : ((m : Int), xl) ∈ R0 → aget ((m : Int), Pl.keyOf r.s (m : Int) xl) r.rows = some xl := fun h9 => (hR.mem _).1 h9
    have hA0 := hansA ((m : Int), xl)
    have hB0 := hansB ((m : Int), xl)
    dsimp only at hloc hA0 hB0
    rw [htai] at hk2 hlen hloc
    have hh : hasS (ts.map Tb.c) (m : Int) = true := by rw [← hrs]; simp only [rowS, Bool.and_eq_true] at hro; exact hro.1
    obtain ⟨_, _, _, htok0, _⟩ := hasS_tab hh
    rw [← hrs, htai] at htok0
    generalize ts[m] = tb at hmx hk2 hlen htok0 hloc
    obtain ⟨tn, cols, ⟨tcv, htcv⟩, tkey, ref, par⟩ := tb
    have k0 := htok0.key0
    have kL := htok0.keyL
    dsimp only [tbV, Tb.c] at hmx hk2 hlen k0 kL hloc
    cases t5 : decide (par < 0) with
    | false =>
      repeat' (first | (refine go_Y ?_; intros) | (refine gs_Y ?_ ?_ <;> (intro hgd; try (simp only [Bool.not_true, Bool.not_false] at hgd))) | (refine gc_Y ?_ ?_ <;> intro _) | fail)
      refine cont_map (L' := [relP Q6 b r', relP Q6 bc r, Q6, pts b3 (.cells [.slice (some ⟨bv, ov, none⟩) (ts.map tbV).length cv].toArray 24), pts b17 (.cells [.int .u8 ak, .int .i64 ai, .int .u64 ar, .string as0].toArray 28), pts b21 (.cells [.int .u8 ck, .int .i64 ci, .int .u64 cr, .string cs0].toArray 28)] ++ R) entD ?_
      refine cont_back (m + 1, ⟨Q6, hQQ.trans (hQ5.trans hQ6)⟩) ⟨hm0, ⟨rfl, rfl, rfl, rfl, rfl, rfl, rfl, rfl, rfl, rfl, trivial⟩, rfl⟩ (by show ts.length - (m + 1) < ts.length - m; omega)
    | true =>
    have hloc := hloc (of_decide_eq_true t5)
    generalize Pl.keyOf r.s (m : Int) xl = key at hk2 hkw hofA hofB hmemA hA0 hB0
    obtain ⟨km2, rfl⟩ : ∃ km2 : Nat, tkey = km2 := ⟨tkey.toNat, by omega⟩
    rw [Int.toNat_natCast] at hk2
    have hkl2 := (List.getElem?_eq_some_iff.1 hk2).1
    have hnk2 : km2 < (xl.map valV).length := by rw [List.length_map]; exact hkl2
    have hxk2 : (xl.map valV)[km2]? = some (valV key) := by rw [List.getElem?_map, hk2]; rfl
    have g4 : decide (((xl.map valV).length : Int) ≤ (km2 : Int)) = false := by simp only [decide_eq_false_iff_not]; omega
    refine ok_learn (VwIn.slice (VwIn.there (VwIn.there (VwIn.here hlv)))) ?_
    rintro ⟨px, cx, rfl⟩
    refine ok_learn (VwIn.base (n := 4) (xs := xl.map valV) (VwIn.there (VwIn.there (VwIn.here hlv))) (by intro e; rw [e] at hnk2; simp at hnk2)) ?_
    rintro ⟨bx2, ox2, rfl⟩
    have hqA := eqL_valV ⟨ak, ai, ar, as0⟩ key
    have hqB := eqL_valV ⟨ck, ci, cr, cs0⟩ key
    have hkk : ∃ z, z = key := ⟨_, rfl⟩
    obtain ⟨key0, hkk⟩ := hkk
    obtain ⟨yk, yi, yr, ys⟩ := key
    dsimp only [valV] at hxk2 hqA hqB
    have hA : (rootAt r ((um : Int), pk0) ≠ some ((m : Int), xl) ∧ (had = false ∨ (had = true ∧ decide (a = (m : Int)) = false) ∨ (had = true ∧ decide (a = (m : Int)) = true ∧ nilB BinOp.eql (eqL [TypeDesc.int .u8, TypeDesc.int .i64, TypeDesc.int .u64, TypeDesc.string] [Value.int .u8 ak, Value.int .i64 ai, Value.int .u64 ar, Value.string as0] [Value.int .u8 yk, Value.int .i64 yi, Value.int .u64 yr, Value.string ys]) = false))) ∨ (had = true ∧ decide (a = (m : Int)) = true ∧ nilB BinOp.eql (eqL [TypeDesc.int .u8, TypeDesc.int .i64, TypeDesc.int .u64, TypeDesc.string] [Value.int .u8 ak, Value.int .i64 ai, Value.int .u64 ar, Value.string as0] [Value.int .u8 yk, Value.int .i64 yi, Value.int .u64 yr, Value.string ys]) = true) := by
      have e : nilB BinOp.eql (eqL [TypeDesc.int .u8, TypeDesc.int .i64, TypeDesc.int .u64, TypeDesc.string] [Value.int .u8 ak, Value.int .i64 ai, Value.int .u64 ar, Value.string as0] [Value.int .u8 yk, Value.int .i64 yi, Value.int .u64 yr, Value.string ys]) = decide ((⟨ak, ai, ar, as0⟩ : Vl) = ⟨yk, yi, yr, ys⟩) := by simp only [nilB]; exact hqA
      rw [e]
      by_cases hh0 : had = true ∧ a = (m : Int) ∧ (⟨ak, ai, ar, as0⟩ : Vl) = ⟨yk, yi, yr, ys⟩
      · exact .inr ⟨hh0.1, by simpa using hh0.2.1, by simpa using hh0.2.2⟩
      · refine .inl ⟨fun h9 => hh0 ?_, ?_⟩
        · rw [hpk0] at h9
          exact hA0 h9
        · cases had
          · exact .inl rfl
          · cases ea : decide (a = (m : Int))
            · exact .inr (.inl ⟨rfl, rfl⟩)
            · refine .inr (.inr ⟨rfl, rfl, ?_⟩)
              simp only [decide_eq_false_iff_not]
              exact fun h9 => hh0 ⟨rfl, of_decide_eq_true ea, h9⟩
    have hB : (rootAt r' ((um : Int), pk0) ≠ some ((m : Int), xl) ∧ (has = false ∨ (has = true ∧ decide (c = (m : Int)) = false) ∨ (has = true ∧ decide (c = (m : Int)) = true ∧ nilB BinOp.eql (eqL [TypeDesc.int .u8, TypeDesc.int .i64, TypeDesc.int .u64, TypeDesc.string] [Value.int .u8 ck, Value.int .i64 ci, Value.int .u64 cr, Value.string cs0] [Value.int .u8 yk, Value.int .i64 yi, Value.int .u64 yr, Value.string ys]) = false))) ∨ (has = true ∧ decide (c = (m : Int)) = true ∧ nilB BinOp.eql (eqL [TypeDesc.int .u8, TypeDesc.int .i64, TypeDesc.int .u64, TypeDesc.string] [Value.int .u8 ck, Value.int .i64 ci, Value.int .u64 cr, Value.string cs0] [Value.int .u8 yk, Value.int .i64 yi, Value.int .u64 yr, Value.string ys]) = true) := by
      have e : nilB BinOp.eql (eqL [TypeDesc.int .u8, TypeDesc.int .i64, TypeDesc.int .u64, TypeDesc.string] [Value.int .u8 ck, Value.int .i64 ci, Value.int .u64 cr, Value.string cs0] [Value.int .u8 yk, Value.int .i64 yi, Value.int .u64 yr, Value.string ys]) = decide ((⟨ck, ci, cr, cs0⟩ : Vl) = ⟨yk, yi, yr, ys⟩) := by simp only [nilB]; exact hqB
      rw [e]
      by_cases hh0 : has = true ∧ c = (m : Int) ∧ (⟨ck, ci, cr, cs0⟩ : Vl) = ⟨yk, yi, yr, ys⟩
      · exact .inr ⟨hh0.1, by simpa using hh0.2.1, by simpa using hh0.2.2⟩
      · refine .inl ⟨fun h9 => hh0 ?_, ?_⟩
        · rw [hpk0] at h9
          exact hB0 h9
        · cases has
          · exact .inl rfl
          · cases ea : decide (c = (m : Int))
            · exact .inr (.inl ⟨rfl, rfl⟩)
            · refine .inr (.inr ⟨rfl, rfl, ?_⟩)
              simp only [decide_eq_false_iff_not]
              exact fun h9 => hh0 ⟨rfl, of_decide_eq_true ea, h9⟩
    clear hqA hqB
    rw [hpk0] at hA hB
    rcases hA with ⟨noA, hA⟩ | ⟨rfl, e1, e2⟩
    · rcases hB with ⟨noB, hB⟩ | ⟨rfl, e3, e4⟩
      · obtain ⟨hl1, hl2⟩ := hloc noA noB
        rcases hA with rfl | ⟨rfl, e1⟩ | ⟨rfl, e1, e2⟩ <;> rcases hB with rfl | ⟨rfl, e3⟩ | ⟨rfl, e3, e4⟩
        all_goals
          repeat' (first | (refine go_Y ?_; intros) | (refine gs_Y ?_ ?_ <;> (intro hgd; try (simp only [Bool.not_true, Bool.not_false] at hgd))) | (refine gc_Y ?_ ?_ <;> intro _) | fail)
          (apply ok_draw [12]; (focus (kernel_rfl)); (focus ((conv => lhs; whnf); first | done | rfl)); (focus (decide +kernel)); (focus (exact (fun _ h => h))))
          repeat' (first | (refine go_Y ?_; intros) | (refine gs_Y ?_ ?_ <;> (intro hgd; try (simp only [Bool.not_true, Bool.not_false] at hgd))) | (refine gc_Y ?_ ?_ <;> intro _) | fail)
          refine cl_Y (hofA Q6 (Ext.refl Q6) (hmemA hl1)) ?_
          rintro ⟨d1, Q7⟩ ⟨hQ7, hd1, he1⟩
          dsimp only at hQ7 hd1 he1 ⊢
          refine opsL_mapL (fun _ h => relP_ext hQ7 (b := b) (r := r') (Take.out1 (A := relP Q6 b r') takeD h)) ?_
          have hsz := docS_size hR.ok r.s.length hl1
          have hps := nodesD_pos (docS r.s R0 r.s.length (m : Int) xl)
          dsimp only at hsz
          have hpos : 0 < sizeS d1.c := by rw [he1, hsz.1]; omega
          obtain ⟨dt, ⟨dlv, hdlv⟩, drow, ⟨dkv, hdkv⟩, dk⟩ := d1
          have hone1 : oneCells [Value.int .i64 dt, dlv, dkv] = true := by
            simp only [oneCells, List.all_cons, List.all_nil, hdlv, hdkv, Bool.and_true]; rfl
          dsimp only [docV]
          repeat' (first | (refine go_Y ?_; intros) | (refine gs_Y ?_ ?_ <;> (intro hgd; try (simp only [Bool.not_true, Bool.not_false] at hgd))) | (refine gc_Y ?_ ?_ <;> intro _) | fail)
          refine cl_Y (hofB Q7 hQ7) ?_
          rintro ⟨d2, Q8⟩ ⟨hQ8, hd2, he2⟩
          dsimp only at hQ8 hd2 he2 ⊢
          refine opsL_mapL (fun _ h => relP_ext hQ8 (b := bc) (r := r) (Take.out1 (A := relP Q7 bc r) takeD h)) ?_
          rw [← hl2, ← he1] at he2
          have hsame := aSame_spec (hd1.ext hQ8) hd2
          rw [he2, (sameD_iff _ _).2 rfl, show decide (0 < sizeS (Dm.mk dt ⟨dlv, hdlv⟩ drow ⟨dkv, hdkv⟩ dk).c) = true from by simpa using hpos] at hsame
          simp only [Bool.and_self] at hsame
          obtain ⟨dt2, ⟨dlv2, hdlv2⟩, drow2, ⟨dkv2, hdkv2⟩, dk2⟩ := d2
          have hone2 : oneCells [Value.int .i64 dt2, dlv2, dkv2] = true := by
            simp only [oneCells, List.all_cons, List.all_nil, hdlv2, hdkv2, Bool.and_true]; rfl
          dsimp only [docV] at hsame ⊢
          repeat' (first | (refine go_Y ?_; intros) | (refine gs_Y ?_ ?_ <;> (intro hgd; try (simp only [Bool.not_true, Bool.not_false] at hgd))) | (refine gc_Y ?_ ?_ <;> intro _) | fail)
          refine cl_Y (hsame) ?_
          intro _ _
          repeat' (first | (refine go_Y ?_; intros) | (refine gs_Y ?_ ?_ <;> (intro hgd; try (simp only [Bool.not_true, Bool.not_false] at hgd))) | (refine gc_Y ?_ ?_ <;> intro _) | fail)
          refine cont_map (L' := [relP Q8 b r', relP Q8 bc r, Q8, pts b3 (.cells [.slice (some ⟨bv, ov, none⟩) (ts.map tbV).length cv].toArray 24), pts b17 (.cells [.int .u8 ak, .int .i64 ai, .int .u64 ar, .string as0].toArray 28), pts b21 (.cells [.int .u8 ck, .int .i64 ci, .int .u64 cr, .string cs0].toArray 28), row 42 1 (.slice (some ⟨bl, ol, none⟩) (l.map rwV).length cl) (l.map rwV)] ++ R) entD ?_
          refine cont_back (j + 1, ⟨Q8, hQ6.trans (hQ7.trans hQ8)⟩) ⟨hj0, ⟨rfl, rfl, rfl, rfl, rfl, rfl, rfl, rfl, rfl, rfl, rfl, rfl, trivial⟩, rfl⟩ (by show l.length - (j + 1) < l.length - j; omega)
      · rcases hA with rfl | ⟨rfl, e1⟩ | ⟨rfl, e1, e2⟩
        all_goals
          repeat' (first | (refine go_Y ?_; intros) | (refine gs_Y ?_ ?_ <;> (intro hgd; try (simp only [Bool.not_true, Bool.not_false] at hgd))) | (refine gc_Y ?_ ?_ <;> intro _) | fail)
          (apply ok_draw [12]; (focus (kernel_rfl)); (focus ((conv => lhs; whnf); first | done | rfl)); (focus (decide +kernel)); (focus (exact (fun _ h => h))))
          repeat' (first | (refine go_Y ?_; intros) | (refine gs_Y ?_ ?_ <;> (intro hgd; try (simp only [Bool.not_true, Bool.not_false] at hgd))) | (refine gc_Y ?_ ?_ <;> intro _) | fail)
          refine cont_map (L' := [relP Q6 b r', relP Q6 bc r, Q6, pts b3 (.cells [.slice (some ⟨bv, ov, none⟩) (ts.map tbV).length cv].toArray 24), pts b17 (.cells [.int .u8 ak, .int .i64 ai, .int .u64 ar, .string as0].toArray 28), pts b21 (.cells [.int .u8 ck, .int .i64 ci, .int .u64 cr, .string cs0].toArray 28), row 42 1 (.slice (some ⟨bl, ol, none⟩) (l.map rwV).length cl) (l.map rwV)] ++ R) entD ?_
          refine cont_back (j + 1, ⟨Q6, hQ6⟩) ⟨hj0, ⟨rfl, rfl, rfl, rfl, rfl, rfl, rfl, rfl, rfl, rfl, rfl, rfl, trivial⟩, rfl⟩ (by show l.length - (j + 1) < l.length - j; omega)
    · repeat' (first | (refine go_Y ?_; intros) | (refine gs_Y ?_ ?_ <;> (intro hgd; try (simp only [Bool.not_true, Bool.not_false] at hgd))) | (refine gc_Y ?_ ?_ <;> intro _) | fail)
      (apply ok_draw [12]; (focus (kernel_rfl)); (focus ((conv => lhs; whnf); first | done | rfl)); (focus (decide +kernel)); (focus (exact (fun _ h => h))))
      repeat' (first | (refine go_Y ?_; intros) | (refine gs_Y ?_ ?_ <;> (intro hgd; try (simp only [Bool.not_true, Bool.not_false] at hgd))) | (refine gc_Y ?_ ?_ <;> intro _) | fail)
      refine cont_map (L' := [relP Q6 b r', relP Q6 bc r, Q6, pts b3 (.cells [.slice (some ⟨bv, ov, none⟩) (ts.map tbV).length cv].toArray 24), pts b17 (.cells [.int .u8 ak, .int .i64 ai, .int .u64 ar, .string as0].toArray 28), pts b21 (.cells [.int .u8 ck, .int .i64 ci, .int .u64 cr, .string cs0].toArray 28), row 42 1 (.slice (some ⟨bl, ol, none⟩) (l.map rwV).length cl) (l.map rwV)] ++ R) entD ?_
      refine cont_back (j + 1, ⟨Q6, hQ6⟩) ⟨hj0, ⟨rfl, rfl, rfl, rfl, rfl, rfl, rfl, rfl, rfl, rfl, rfl, rfl, trivial⟩, rfl⟩ (by show l.length - (j + 1) < l.length - j; omega)
end Go.Proofs.YtphaegcoldpclaaGreatDoor
