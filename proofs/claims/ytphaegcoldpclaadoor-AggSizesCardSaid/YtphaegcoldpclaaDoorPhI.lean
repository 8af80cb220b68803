/- The chapter's example (fasciclelaw24.alive). -/
import Derived.Test.YtphaegcoldpclaaDoorG14
import Derived.Test.YtphaegcoldpclaaDoorG7
import Derived.Test.YtphaegcoldpclaaDoorG11
-- @DEFS Y
set_option linter.unusedSimpArgs false
set_option linter.unusedVariables false
set_option maxRecDepth 100000
namespace Go.Proofs.YtphaegcoldpclaaDoor
open Go Go.Fx Go.Proofs Go.Pl

theorem num24_spec (n : Int) : FSpec Tryd.prog 57 [.int .i64 n] [] Unit (fun _ => True) (fun _ => .agg (valV ⟨2, n, 0, ⟨#[]⟩⟩).toArray) (fun _ => []) := by
  refine spec_intro [] _ Tryd.func57 rfl Tryd.ntmps57 (by rfl) (fun w0 R => ?_)
  repeat' (first | (refine go_Y ?_; intros) | (refine gs_Y ?_ ?_ <;> (intro hgd; try (simp only [Bool.not_true, Bool.not_false] at hgd))) | (refine gc_Y ?_ ?_ <;> intro _) | fail)
  (refine rt_Y (y := ()) (hrs := Tryd.results57) (hv := ?_) (hφ := ?_))
  · rfl
  · trivial
def agO2 : Opr := ⟨1, 1, [nV 3, nV 1]⟩
def agO3 : Opr := ⟨1, 1, [nV 2, nV 1]⟩
def ag2 : Rl := (al1.doOp agO2).1
def ag3 : Rl := (ag2.doOp agO3).1
theorem ag2_ok : ag2.Ok := al1_ok.doOp _
theorem ag3_ok : ag3.Ok := ag2_ok.doOp _
theorem ag_wf1 : ∀ v ∈ alO1.row, v.wf := fun v hv => by rw [List.mem_singleton.1 hv]; exact nV_wf (by decide) (by decide)
theorem ag_wf2 : ∀ v ∈ agO2.row, v.wf := fun v hv => by
    simp only [agO2, List.mem_cons, List.not_mem_nil, or_false] at hv
    rcases hv with rfl | rfl <;> exact nV_wf (by decide) (by decide)
theorem ag_wf3 : ∀ v ∈ agO3.row, v.wf := fun v hv => by
    simp only [agO3, List.mem_cons, List.not_mem_nil, or_false] at hv
    rcases hv with rfl | rfl <;> exact nV_wf (by decide) (by decide)
theorem ag3_wf : Rl.Wf ag3 := doOp_wf' (doOp_wf' (doOp_wf' (r := al0) (new_wf' (s := twoS)) ag_wf1) ag_wf2) ag_wf3
theorem ag_e2 : (al1.doOp agO2).2.2.2 = 0 := by decide +kernel
theorem ag_e3 : (ag2.doOp agO3).2.2.2 = 0 := by decide +kernel
def agq : List Rr := [⟨0, ⟨.slice none 0 0, rfl⟩, [nV 1]⟩, ⟨1, ⟨.slice none 0 0, rfl⟩, [nV 2, nV 1]⟩, ⟨1, ⟨.slice none 0 0, rfl⟩, [nV 3, nV 1]⟩]
theorem ag_perm : (agq.map (Rr.pl ag3.s)).isPerm ag3.rows = true := by decide +kernel
theorem ag_srt : ((agq.map (Rr.pl ag3.s)).map (·.1)).Pairwise fun x y => pltB x y = true := by decide +kernel
theorem ag_ref : RefQ ag3 agq := ⟨List.isPerm_iff.1 ag_perm, by have := ag_srt; rw [List.map_map, List.pairwise_map] at this; exact this⟩
def agR : List Pr2 := [(0, [nV 1]), (1, [nV 2, nV 1]), (1, [nV 3, nV 1])]
theorem ag_R : RowsQ ag3 agR := ag_ref.rowsQ ag3_ok
theorem ag_g0 : aget (0, nV 1) ag3.rows = some [nV 1] := by decide +kernel
theorem ag_g1 : aget (1, nV 3) ag3.rows = some [nV 3, nV 1] := by decide +kernel
theorem ag_g9 : aget (0, nV 9) ag3.rows = none := by decide +kernel
theorem ag_c9 : (ag3.getOp 0 (nV 9)).2 = 3 := by decide +kernel
theorem ag_len : ag3.s.length = 2 := by decide +kernel
def agD : Dc := .mk 0 [nV 1] [.mk 1 [nV 2, nV 1] [], .mk 1 [nV 3, nV 1] []]
theorem ag_kids0 : kidsR ag3.s agR (0, [nV 1]) = [(1, [nV 2, nV 1]), (1, [nV 3, nV 1])] := by decide +kernel
theorem ag_kids1 : kidsR ag3.s agR (1, [nV 2, nV 1]) = [] := by decide +kernel
theorem ag_kids2 : kidsR ag3.s agR (1, [nV 3, nV 1]) = [] := by decide +kernel
theorem ag_doc : docS ag3.s agR ag3.s.length 0 [nV 1] = agD := by
  rw [ag_len]
  have h1 := docS_succ (s := ag3.s) (R := agR) 0 (1, [nV 2, nV 1])
  have h2 := docS_succ (s := ag3.s) (R := agR) 0 (1, [nV 3, nV 1])
  have h0 := docS_succ (s := ag3.s) (R := agR) 1 (0, [nV 1])
  rw [ag_kids1] at h1
  rw [ag_kids2] at h2
  rw [ag_kids0] at h0
  simp only [List.map_cons, List.map_nil] at h0 h1 h2
  rw [h0, h1, h2]; rfl
theorem ag_size : sizeS agD = 3 := by decide +kernel
theorem ag_root : rootAns ag3 (1, [nV 3, nV 1]) = (0, nV 1, true) := by decide +kernel
theorem ag_same : (decide (0 < sizeS agD) && (decide (0 < sizeS agD) && sameD agD agD)) = true := by
  rw [ag_size, (sameD_iff _ _).2 rfl]; decide
theorem nV_eq (n : Int) : nilB BinOp.eql (eqL [TypeDesc.int .u8, TypeDesc.int .i64, TypeDesc.int .u64, TypeDesc.string] [Value.int .u8 2, Value.int .i64 n, Value.int .u64 0, Value.string ⟨#[]⟩] [Value.int .u8 2, Value.int .i64 n, Value.int .u64 0, Value.string ⟨#[]⟩]) = true := by
  have := eqL_valV (nV n) (nV n)
  simp only [nilB]
  rw [show eqL [TypeDesc.int .u8, TypeDesc.int .i64, TypeDesc.int .u64, TypeDesc.string] [Value.int .u8 2, Value.int .i64 n, Value.int .u64 0, Value.string ⟨#[]⟩] [Value.int .u8 2, Value.int .i64 n, Value.int .u64 0, Value.string ⟨#[]⟩] = _ from this]
  simp
set_option maxHeartbeats 8000000 in
theorem alive24_spec (A : HProp) (hA : UT A) : FSpec Tryd.prog 23 [] [A] Unit (fun _ => True) (fun _ => .bool true) (fun _ => [A]) := by
  have f0 : (!decide ((0 : Int) = (0 : Int))) = false := by decide
  refine spec_intro [] _ Tryd.func23 rfl Tryd.ntmps23 (by rfl) (fun w0 R => ?_)
  repeat' (first | (refine go_Y ?_; intros) | (refine gs_Y ?_ ?_ <;> (intro hgd; try (simp only [Bool.not_true, Bool.not_false] at hgd))) | (refine gc_Y ?_ ?_ <;> intro _) | fail)
  refine cl_Y (two_spec) ?_
  rintro ⟨⟨v, hv⟩, tk, P0⟩ ⟨hsv0, hmc⟩
  dsimp only at hsv0 hmc ⊢
  refine opsL_map (fun _ h => pool_in (A := P0) (P := A) (Take.out2 takeD h)) ?_
  have hsv : SV (pool P0 A) v tk := hsv0.ext (Ext.poolL _ _)
  have hU : UT (pool P0 A) := hA.ext (Ext.pool _ _)
  have hEA : Ext A (pool P0 A) := Ext.pool _ _
  generalize pool P0 A = P at hsv hU hEA
  have hnew := new_spec v tk P hsv (by rw [hmc]; exact two_ok)
  rw [hmc] at hnew
  repeat' (first | (refine go_Y ?_; intros) | (refine gs_Y ?_ ?_ <;> (intro hgd; try (simp only [Bool.not_true, Bool.not_false] at hgd))) | (refine gc_Y ?_ ?_ <;> intro _) | fail)
  refine cl_Y (hnew) ?_
  rintro ⟨b, P1⟩ hE1
  dsimp only at hE1 ⊢
  have hU1 := hU.ext hE1
  have hEA1 := hEA.trans hE1
  repeat' (first | (refine go_Y ?_; intros) | (refine gs_Y ?_ ?_ <;> (intro hgd; try (simp only [Bool.not_true, Bool.not_false] at hgd))) | (refine gc_Y ?_ ?_ <;> intro _) | fail)
  refine cl_Y (num24_spec 1) ?_
  intro _ _
  repeat' (first | (refine go_Y ?_; intros) | (refine gs_Y ?_ ?_ <;> (intro hgd; try (simp only [Bool.not_true, Bool.not_false] at hgd))) | (refine gc_Y ?_ ?_ <;> intro _) | fail)
  rename_i w1 hw1
  refine ops_learn (rowShape (e := 71) (n := 4) (v := w1) (xs := [nV 1].map valV) (by decide) takeD) ?_
  rintro (⟨rfl, hn⟩ | ⟨g1, c1, rfl, _⟩)
  · cases hn
  refine opsL_map (fun _ h => pool_in (A := row 71 4 (.slice (some ⟨g1, 0, none⟩) 1 c1) ([nV 1].map valV)) (P := P1) (Take.out2 takeD h)) ?_
  have hx1 := Ext.pool (row 71 4 (.slice (some ⟨g1, 0, none⟩) 1 c1) ([nV 1].map valV)) P1
  have hwv1 : Vw (pool (row 71 4 (.slice (some ⟨g1, 0, none⟩) 1 c1) ([nV 1].map valV)) P1) 4 (.slice (some ⟨g1, 0, none⟩) 1 c1) (alO1.row.map valV) := pool_row
  refine opsL_map (fun _ h => relP_ext (b := b) (r := al0) hx1 (Take.out1 takeD h)) ?_
  have hUq1 := hU1.ext hx1
  have hEq1 := hEA1.trans hx1
  generalize pool (row 71 4 (.slice (some ⟨g1, 0, none⟩) 1 c1) ([nV 1].map valV)) P1 = Q1 at hx1 hwv1 hUq1 hEq1
  have hdo1 := relDo_spec b al0 alO1 (.slice (some ⟨g1, 0, none⟩) 1 c1) Q1 al0_ok hUq1 hwv1 rfl ag_wf1 (by decide)
  rw [al_e1] at hdo1
  repeat' (first | (refine go_Y ?_; intros) | (refine gs_Y ?_ ?_ <;> (intro hgd; try (simp only [Bool.not_true, Bool.not_false] at hgd))) | (refine gc_Y ?_ ?_ <;> intro _) | fail)
  refine cl_Y (hdo1) ?_
  rintro ⟨⟨b1, hb1⟩, ⟨a1, ha1⟩, P2⟩ ⟨hE2, hbv1⟩
  dsimp only at hE2 hbv1 ⊢
  have hU2 := hUq1.ext hE2
  have hEA2 := hEq1.trans hE2
  refine opsL_map (L' := [relP P2 b al1, P2] ++ R) entD ?_
  repeat' (first | (refine go_Y ?_; intros) | (refine gs_Y ?_ ?_ <;> (intro hgd; try (simp only [Bool.not_true, Bool.not_false] at hgd))) | (refine gc_Y ?_ ?_ <;> intro _) | fail)
  refine cl_Y (num24_spec 3) ?_
  intro _ _
  repeat' (first | (refine go_Y ?_; intros) | (refine gs_Y ?_ ?_ <;> (intro hgd; try (simp only [Bool.not_true, Bool.not_false] at hgd))) | (refine gc_Y ?_ ?_ <;> intro _) | fail)
  refine cl_Y (num24_spec 1) ?_
  intro _ _
  repeat' (first | (refine go_Y ?_; intros) | (refine gs_Y ?_ ?_ <;> (intro hgd; try (simp only [Bool.not_true, Bool.not_false] at hgd))) | (refine gc_Y ?_ ?_ <;> intro _) | fail)
  rename_i w2 hw2
  refine ops_learn (rowShape (e := 71) (n := 4) (v := w2) (xs := [nV 3, nV 1].map valV) (by decide) takeD) ?_
  rintro (⟨rfl, hn⟩ | ⟨g2, c2, rfl, _⟩)
  · cases hn
  refine opsL_map (fun _ h => pool_in (A := row 71 4 (.slice (some ⟨g2, 0, none⟩) 2 c2) ([nV 3, nV 1].map valV)) (P := P2) (Take.out2 takeD h)) ?_
  have hx2 := Ext.pool (row 71 4 (.slice (some ⟨g2, 0, none⟩) 2 c2) ([nV 3, nV 1].map valV)) P2
  have hwv2 : Vw (pool (row 71 4 (.slice (some ⟨g2, 0, none⟩) 2 c2) ([nV 3, nV 1].map valV)) P2) 4 (.slice (some ⟨g2, 0, none⟩) 2 c2) (agO2.row.map valV) := pool_row
  refine opsL_map (fun _ h => relP_ext (b := b) (r := al1) hx2 (Take.out1 takeD h)) ?_
  have hUq2 := hU2.ext hx2
  have hEq2 := hEA2.trans hx2
  generalize pool (row 71 4 (.slice (some ⟨g2, 0, none⟩) 2 c2) ([nV 3, nV 1].map valV)) P2 = Q2 at hx2 hwv2 hUq2 hEq2
  have hdo2 := relDo_spec b al1 agO2 (.slice (some ⟨g2, 0, none⟩) 2 c2) Q2 al1_ok hUq2 hwv2 rfl ag_wf2 (by decide)
  rw [ag_e2] at hdo2
  repeat' (first | (refine go_Y ?_; intros) | (refine gs_Y ?_ ?_ <;> (intro hgd; try (simp only [Bool.not_true, Bool.not_false] at hgd))) | (refine gc_Y ?_ ?_ <;> intro _) | fail)
  refine cl_Y (hdo2) ?_
  rintro ⟨⟨b2, hb2⟩, ⟨a2, ha2⟩, P3⟩ ⟨hE3, hbv2⟩
  dsimp only at hE3 hbv2 ⊢
  have hU3 := hUq2.ext hE3
  have hEA3 := hEq2.trans hE3
  refine opsL_map (L' := [relP P3 b ag2, P3] ++ R) entD ?_
  repeat' (first | (refine go_Y ?_; intros) | (refine gs_Y ?_ ?_ <;> (intro hgd; try (simp only [Bool.not_true, Bool.not_false] at hgd))) | (refine gc_Y ?_ ?_ <;> intro _) | fail)
  refine cl_Y (num24_spec 2) ?_
  intro _ _
  repeat' (first | (refine go_Y ?_; intros) | (refine gs_Y ?_ ?_ <;> (intro hgd; try (simp only [Bool.not_true, Bool.not_false] at hgd))) | (refine gc_Y ?_ ?_ <;> intro _) | fail)
  refine cl_Y (num24_spec 1) ?_
  intro _ _
  repeat' (first | (refine go_Y ?_; intros) | (refine gs_Y ?_ ?_ <;> (intro hgd; try (simp only [Bool.not_true, Bool.not_false] at hgd))) | (refine gc_Y ?_ ?_ <;> intro _) | fail)
  rename_i w3 hw3
  refine ops_learn (rowShape (e := 71) (n := 4) (v := w3) (xs := [nV 2, nV 1].map valV) (by decide) takeD) ?_
  rintro (⟨rfl, hn⟩ | ⟨g3, c3, rfl, _⟩)
  · cases hn
  refine opsL_map (fun _ h => pool_in (A := row 71 4 (.slice (some ⟨g3, 0, none⟩) 2 c3) ([nV 2, nV 1].map valV)) (P := P3) (Take.out2 takeD h)) ?_
  have hx3 := Ext.pool (row 71 4 (.slice (some ⟨g3, 0, none⟩) 2 c3) ([nV 2, nV 1].map valV)) P3
  have hwv3 : Vw (pool (row 71 4 (.slice (some ⟨g3, 0, none⟩) 2 c3) ([nV 2, nV 1].map valV)) P3) 4 (.slice (some ⟨g3, 0, none⟩) 2 c3) (agO3.row.map valV) := pool_row
  refine opsL_map (fun _ h => relP_ext (b := b) (r := ag2) hx3 (Take.out1 takeD h)) ?_
  have hUq3 := hU3.ext hx3
  have hEq3 := hEA3.trans hx3
  generalize pool (row 71 4 (.slice (some ⟨g3, 0, none⟩) 2 c3) ([nV 2, nV 1].map valV)) P3 = Q3 at hx3 hwv3 hUq3 hEq3
  have hdo3 := relDo_spec b ag2 agO3 (.slice (some ⟨g3, 0, none⟩) 2 c3) Q3 ag2_ok hUq3 hwv3 rfl ag_wf3 (by decide)
  rw [ag_e3] at hdo3
  repeat' (first | (refine go_Y ?_; intros) | (refine gs_Y ?_ ?_ <;> (intro hgd; try (simp only [Bool.not_true, Bool.not_false] at hgd))) | (refine gc_Y ?_ ?_ <;> intro _) | fail)
  refine cl_Y (hdo3) ?_
  rintro ⟨⟨b3, hb3⟩, ⟨a3, ha3⟩, P4⟩ ⟨hE4, hbv3⟩
  dsimp only at hE4 hbv3 ⊢
  have hU4 := hUq3.ext hE4
  have hEA4 := hEq3.trans hE4
  refine opsL_map (L' := [relP P4 b ag3, P4] ++ R) entD ?_
  repeat' (first | (refine go_Y ?_; intros) | (refine gs_Y ?_ ?_ <;> (intro hgd; try (simp only [Bool.not_true, Bool.not_false] at hgd))) | (refine gc_Y ?_ ?_ <;> intro _) | fail)
  refine cl_Y (num24_spec 1) ?_
  intro _ _
  repeat' (first | (refine go_Y ?_; intros) | (refine gs_Y ?_ ?_ <;> (intro hgd; try (simp only [Bool.not_true, Bool.not_false] at hgd))) | (refine gc_Y ?_ ?_ <;> intro _) | fail)
  have hof := aOf_some ag_R ag3_ok ag3_wf b 0 (nV 1) [nV 1] P4 hU4 (nV_wf (by decide) (by decide)) ag_g0
  rw [ag_doc] at hof
  refine cl_Y (hof) ?_
  rintro ⟨d, P5⟩ ⟨hE5, hdR, hdc⟩
  dsimp only at hE5 hdR hdc ⊢
  have hU5 := hU4.ext hE5
  have hEA5 := hEA4.trans hE5
  obtain ⟨dt, ⟨lv, hlv⟩, drow, ⟨kv, hkv⟩, kids⟩ := d
  have hone : oneCells [Value.int .i64 dt, lv, kv] = true := by
    simp only [oneCells, List.all_cons, List.all_nil, hlv, hkv, Bool.and_true]; rfl
  dsimp only [docV] at hdR ⊢
  repeat' (first | (refine go_Y ?_; intros) | (refine gs_Y ?_ ?_ <;> (intro hgd; try (simp only [Bool.not_true, Bool.not_false] at hgd))) | (refine gc_Y ?_ ?_ <;> intro _) | fail)
  rename_i b3
  refine cl_Y (num24_spec 3) ?_
  intro _ _
  repeat' (first | (refine go_Y ?_; intros) | (refine gs_Y ?_ ?_ <;> (intro hgd; try (simp only [Bool.not_true, Bool.not_false] at hgd))) | (refine gc_Y ?_ ?_ <;> intro _) | fail)
  have hrt := aRoot_some ag_R ag3_ok ag3_wf b 1 (nV 3) [nV 3, nV 1] P5 hU5 (nV_wf (by decide) (by decide)) ag_g1
  rw [ag_root] at hrt
  dsimp only at hrt
  refine cl_Y (hrt) ?_
  intro P6 hE6
  have hU6 := hU5.ext hE6
  have hEA6 := hEA5.trans hE6
  dsimp only [nV, valV]
  repeat' (first | (refine go_Y ?_; intros) | (refine gs_Y ?_ ?_ <;> (intro hgd; try (simp only [Bool.not_true, Bool.not_false] at hgd))) | (refine gc_Y ?_ ?_ <;> intro _) | fail)
  refine cl_Y (aAll_nil) ?_
  intro _ _
  repeat' (first | (refine go_Y ?_; intros) | (refine gs_Y ?_ ?_ <;> (intro hgd; try (simp only [Bool.not_true, Bool.not_false] at hgd))) | (refine gc_Y ?_ ?_ <;> intro _) | fail)
  refine cl_Y (num24_spec 9) ?_
  intro _ _
  repeat' (first | (refine go_Y ?_; intros) | (refine gs_Y ?_ ?_ <;> (intro hgd; try (simp only [Bool.not_true, Bool.not_false] at hgd))) | (refine gc_Y ?_ ?_ <;> intro _) | fail)
  have hof9 := aOf_none ag3_ok b 0 (nV 9) P6 hU6 (nV_wf (by decide) (by decide)) ag_g9
  rw [ag_c9] at hof9
  refine cl_Y (hof9) ?_
  intro _ _
  dsimp only [docE]
  repeat' (first | (refine go_Y ?_; intros) | (refine gs_Y ?_ ?_ <;> (intro hgd; try (simp only [Bool.not_true, Bool.not_false] at hgd))) | (refine gc_Y ?_ ?_ <;> intro _) | fail)
  have hdR6 := hdR.ext hE6
  have hsz := aSize_spec hdR6
  have hsm := aSame_spec hdR6 hdR6
  rw [hdc, ag_size] at hsz
  rw [hdc, ag_same] at hsm
  dsimp only [docV] at hsz hsm
  cases hdR6 with
  | mk h1 h2 h3 h4 h5 h6 =>
  simp only [Dm.c, agD, Dc.mk.injEq, cK_map] at hdc
  obtain ⟨rfl, rfl, hkc⟩ := hdc
  obtain ⟨k1, k2, rfl⟩ : ∃ k1 k2, kids = [k1, k2] := by
    match kids, hkc with
    | [k1, k2], _ => exact ⟨k1, k2, rfl⟩
    | [], h => simp at h
    | [_], h => simp at h
    | _ :: _ :: _ :: _, h => simp at h
  simp only [List.map_cons, List.map_nil, List.cons.injEq, and_true] at hkc
  have hk1 := h3 k1 (by simp)
  obtain ⟨t1, ⟨lv1, hlv1⟩, row1, ⟨kv1, hkv1⟩, kids1⟩ := k1
  obtain ⟨t2, ⟨lv2, hlv2⟩, row2, ⟨kv2, hkv2⟩, kids2⟩ := k2
  simp only [Dm.c, Dc.mk.injEq] at hkc
  obtain ⟨⟨rfl, rfl, _⟩, ⟨rfl, rfl, _⟩⟩ := hkc
  cases hk1 with
  | mk g1 g2 g3 g4 g5 g6 =>
  dsimp only at h1 h2 g1
  have hx0 : (([.mk 1 ⟨lv1, hlv1⟩ [nV 2, nV 1] ⟨kv1, hkv1⟩ kids1, .mk 1 ⟨lv2, hlv2⟩ [nV 3, nV 1] ⟨kv2, hkv2⟩ kids2] : List Dm).map docV)[0]? = some [.int .i64 1, lv1, kv1] := rfl
  have hx1 : (([nV 2, nV 1] : List Vl).map valV)[0]? = some [.int .u8 2, .int .i64 2, .int .u64 0, .string ⟨#[]⟩] := rfl
  have hl0 : 0 < (([.mk 1 ⟨lv1, hlv1⟩ [nV 2, nV 1] ⟨kv1, hkv1⟩ kids1, .mk 1 ⟨lv2, hlv2⟩ [nV 3, nV 1] ⟨kv2, hkv2⟩ kids2] : List Dm).map docV).length := by show (0 : Nat) < 2; decide
  have hl2 : decide (((([.mk 1 ⟨lv1, hlv1⟩ [nV 2, nV 1] ⟨kv1, hkv1⟩ kids1, .mk 1 ⟨lv2, hlv2⟩ [nV 3, nV 1] ⟨kv2, hkv2⟩ kids2] : List Dm).map docV).length : Int) = 2) = true := by show decide (((2 : Nat) : Int) = 2) = true; decide
  have hl3 : decide (((([nV 2, nV 1] : List Vl).map valV).length : Int) = 2) = true := by show decide (((2 : Nat) : Int) = 2) = true; decide
  have hl1 : 0 < (([nV 2, nV 1] : List Vl).map valV).length := by show (0 : Nat) < 2; decide
  refine ok_learn (VwIn.slice (VwIn.there (VwIn.there (VwIn.here h2)))) ?_
  rintro ⟨pk, ck, rfl⟩
  refine ok_learn (VwIn.base (n := 3) (VwIn.there (VwIn.there (VwIn.here h2))) (by simp)) ?_
  rintro ⟨bk, ok', rfl⟩
  refine ok_learn (VwIn.slice (VwIn.there (VwIn.there (VwIn.here g1)))) ?_
  rintro ⟨pl, cl, rfl⟩
  refine ok_learn (VwIn.base (n := 4) (VwIn.there (VwIn.there (VwIn.here g1))) (by simp)) ?_
  rintro ⟨bl, ol, rfl⟩
  have q1 := nV_eq 1
  have q2 := nV_eq 2
  (apply ok_draw [25, 39]; (focus (kernel_rfl)); (focus ((conv => lhs; whnf); first | done | rfl)); (focus (decide +kernel)); (focus (exact (fun _ h => h))))
  repeat' (first | (refine go_Y ?_; intros) | (refine gs_Y ?_ ?_ <;> (intro hgd; try (simp only [Bool.not_true, Bool.not_false] at hgd))) | (refine gc_Y ?_ ?_ <;> intro _) | fail)
  refine clN_Y (num24_spec 2) ?_
  intro _ _
  dsimp only [valV]
  repeat' (first | (refine go_Y ?_; intros) | (refine gs_Y ?_ ?_ <;> (intro hgd; try (simp only [Bool.not_true, Bool.not_false] at hgd))) | (refine gc_Y ?_ ?_ <;> intro _) | fail)
  refine cl_Y (hsz) ?_
  intro _ _
  repeat' (first | (refine go_Y ?_; intros) | (refine gs_Y ?_ ?_ <;> (intro hgd; try (simp only [Bool.not_true, Bool.not_false] at hgd))) | (refine gc_Y ?_ ?_ <;> intro _) | fail)
  refine clN_Y (num24_spec 1) ?_
  intro _ _
  dsimp only [valV]
  repeat' (first | (refine go_Y ?_; intros) | (refine gs_Y ?_ ?_ <;> (intro hgd; try (simp only [Bool.not_true, Bool.not_false] at hgd))) | (refine gc_Y ?_ ?_ <;> intro _) | fail)
  refine cl_Y (hsm) ?_
  intro _ _
  repeat' (first | (refine go_Y ?_; intros) | (refine gs_Y ?_ ?_ <;> (intro hgd; try (simp only [Bool.not_true, Bool.not_false] at hgd))) | (refine gc_Y ?_ ?_ <;> intro _) | fail)
  refine cont_map (fun _ h => ext_in hEA6 (Take.out1 takeD h)) ?_
  (refine rt_Y (y := ()) (hrs := Tryd.results23) (hv := ?_) (hφ := ?_))
  · rfl
  · trivial
end Go.Proofs.YtphaegcoldpclaaDoor
