/- The law RelNil (layer 14). -/
import Derived.Test.YtbagfdolcabniaaDoorNlA
import Derived.Test.YtbagfdolcabniaaDoorL14E
import Derived.Test.YtbagfdolcabniaaDoorRkP
-- @DEFS Y
set_option linter.unusedSimpArgs false
set_option linter.unusedVariables false
set_option maxRecDepth 100000
set_option pp.deepTerms true
set_option pp.maxSteps 200000
namespace Go.Proofs.YtbagfdolcabniaaDoor
open Go Go.Fx Go.Proofs Go.Pl

theorem svr_nil {A : HProp} : SVr A (.slice none 0 0) [] := ⟨vw_nil5, fun _ h => by simp at h, by decide, cap0⟩
set_option maxHeartbeats 4000000 in
theorem RelNil_spec (o : Om) (table : Int) (key : Vl) (A : HProp) (hU : UT A) (h1 : OmR A o) (hkt : key.text.size ≤ 140737488355328) :
    FSpec Tryd.prog 8 [.agg (opV o).toArray, .int .i64 table, .agg (valV key).toArray] [A] HProp (fun P' => Ext A P') (fun _ => .bool true) (fun P' => [P']) := by
  obtain ⟨okd, otb, ⟨orv, horv⟩, orow⟩ := o
  obtain ⟨kk, ki, kr, kt⟩ := key
  dsimp only [opV, valV] at *
  obtain ⟨hcv, hcl, hct⟩ := h1
  dsimp only at hcv hcl hct
  have lr : (orow.map valV).length = orow.length := by simp
  refine spec_intro [] _ Tryd.func8 rfl Tryd.ntmps8 (by rfl) (fun w0 R => ?_)
  refine ok_learn (VwIn.slice (VwIn.here hcv)) ?_
  rintro ⟨po, co, rfl⟩
  repeat' (first | (refine go_Y ?_; intros) | (refine gs_Y ?_ ?_ <;> (intro hgd; try (simp only [Bool.not_true, Bool.not_false] at hgd))) | (refine gc_Y ?_ ?_ <;> intro _) | fail)
  rename_i b1 b2 w1 hw1
  refine ops_learn (rowShape (e := 28) (n := 3) (v := w1) (xs := [[.int .u8 okd, .int .i64 otb, .slice po (orow.map valV).length co]]) (by decide) takeD) ?_
  rintro (⟨rfl, hn⟩ | ⟨g1, c1, rfl, _⟩)
  · cases hn
  refine opsL_map (fun _ h => pool_in (A := row 28 3 (.slice (some ⟨g1, 0, none⟩) 1 c1) [[.int .u8 okd, .int .i64 otb, .slice po (orow.map valV).length co]]) (P := A) (Take.out2 takeD h)) ?_
  have hx1 := Ext.pool (row 28 3 (.slice (some ⟨g1, 0, none⟩) 1 c1) [[.int .u8 okd, .int .i64 otb, .slice po (orow.map valV).length co]]) A
  have hwv1 : Vw (pool (row 28 3 (.slice (some ⟨g1, 0, none⟩) 1 c1) [[.int .u8 okd, .int .i64 otb, .slice po (orow.map valV).length co]]) A) 3 (.slice (some ⟨g1, 0, none⟩) 1 c1) ([⟨okd, otb, ⟨_, horv⟩, orow⟩].map opV) := pool_row
  generalize pool (row 28 3 (.slice (some ⟨g1, 0, none⟩) 1 c1) [[.int .u8 okd, .int .i64 otb, .slice po (orow.map valV).length co]]) A = P0 at hx1 hwv1
  have hU0 := hU.ext hx1
  have hcv0 := hx1.vw hcv
  have hh2 := heavy14_spec (.slice none 0 0) (.slice (some ⟨g1, 0, none⟩) 1 c1) [] [⟨okd, otb, ⟨_, horv⟩, orow⟩] P0 svr_nil ⟨hwv1, fun q hq => by rw [List.mem_singleton] at hq; subst hq; exact ⟨hcv0, hcl, hct⟩, by show (1 : Nat) ≤ _; decide⟩
  clear hwv1 hcv hct hw1 hcl hcv0
  refine cl_Y (hh2) ?_
  intro y2 _
  cases y2 with
  | true =>
    repeat' (first | (refine go_Y ?_; intros) | (refine gs_Y ?_ ?_ <;> (intro hgd; try (simp only [Bool.not_true, Bool.not_false] at hgd))) | (refine gc_Y ?_ ?_ <;> intro _) | fail)
    refine cl_Y (alive14_spec P0 hU0) ?_
    intro _ _
    repeat' (first | (refine go_Y ?_; intros) | (refine gs_Y ?_ ?_ <;> (intro hgd; try (simp only [Bool.not_true, Bool.not_false] at hgd))) | (refine gc_Y ?_ ?_ <;> intro _) | fail)
    (refine rt_Y (y := P0) (hrs := Tryd.results8) (hv := ?_) (hφ := ?_))
    · rfl
    · exact hx1
  | false =>
    cases u1 : decide ((4096 : Int) < (kt.size : Int)) with
    | true =>
      repeat' (first | (refine go_Y ?_; intros) | (refine gs_Y ?_ ?_ <;> (intro hgd; try (simp only [Bool.not_true, Bool.not_false] at hgd))) | (refine gc_Y ?_ ?_ <;> intro _) | fail)
      refine cl_Y (alive14_spec P0 hU0) ?_
      intro _ _
      repeat' (first | (refine go_Y ?_; intros) | (refine gs_Y ?_ ?_ <;> (intro hgd; try (simp only [Bool.not_true, Bool.not_false] at hgd))) | (refine gc_Y ?_ ?_ <;> intro _) | fail)
      (refine rt_Y (y := P0) (hrs := Tryd.results8) (hv := ?_) (hφ := ?_))
      · rfl
      · exact hx1
    | false =>
      have z1 : decide ((1 : Int) = (1 : Int)) = true := by decide
      have z0 : decide ((0 : Int) = (0 : Int)) = true := by decide
      have z2 : decide (((0 : Nat) : Int) = 0) = true := by decide
      have z3 : decide (((0 : Nat) : Int) + ((0 : Nat) : Int) + ((0 : Nat) : Int) = 0) = true := by decide
      clear hh2
      repeat' (first | (refine go_Y ?_; intros) | (refine gs_Y ?_ ?_ <;> (intro hgd; try (simp only [Bool.not_true, Bool.not_false] at hgd))) | (refine gc_Y ?_ ?_ <;> intro _) | fail)
      refine cl_Y (nil_Do okd otb _ horv) ?_
      intro _ _
      repeat' (first | (refine go_Y ?_; intros) | (refine gs_Y ?_ ?_ <;> (intro hgd; try (simp only [Bool.not_true, Bool.not_false] at hgd))) | (refine gc_Y ?_ ?_ <;> intro _) | fail)
      refine cl_Y (nil_Get table ⟨kk, ki, kr, kt⟩) ?_
      intro _ _
      repeat' (first | (refine go_Y ?_; intros) | (refine gs_Y ?_ ?_ <;> (intro hgd; try (simp only [Bool.not_true, Bool.not_false] at hgd))) | (refine gc_Y ?_ ?_ <;> intro _) | fail)
      refine cl_Y (nil_Rows table) ?_
      intro _ _
      repeat' (first | (refine go_Y ?_; intros) | (refine gs_Y ?_ ?_ <;> (intro hgd; try (simp only [Bool.not_true, Bool.not_false] at hgd))) | (refine gc_Y ?_ ?_ <;> intro _) | fail)
      refine cl_Y (nil_Of table ⟨kk, ki, kr, kt⟩) ?_
      intro _ _
      repeat' (first | (refine go_Y ?_; intros) | (refine gs_Y ?_ ?_ <;> (intro hgd; try (simp only [Bool.not_true, Bool.not_false] at hgd))) | (refine gc_Y ?_ ?_ <;> intro _) | fail)
      refine cl_Y (nil_Len) ?_
      intro _ _
      repeat' (first | (refine go_Y ?_; intros) | (refine gs_Y ?_ ?_ <;> (intro hgd; try (simp only [Bool.not_true, Bool.not_false] at hgd))) | (refine gc_Y ?_ ?_ <;> intro _) | fail)
      refine cl_Y (nil_Turns) ?_
      intro _ _
      repeat' (first | (refine go_Y ?_; intros) | (refine gs_Y ?_ ?_ <;> (intro hgd; try (simp only [Bool.not_true, Bool.not_false] at hgd))) | (refine gc_Y ?_ ?_ <;> intro _) | fail)
      refine cl_Y (nil_Whole) ?_
      intro _ _
      repeat' (first | (refine go_Y ?_; intros) | (refine gs_Y ?_ ?_ <;> (intro hgd; try (simp only [Bool.not_true, Bool.not_false] at hgd))) | (refine gc_Y ?_ ?_ <;> intro _) | fail)
      refine cl_Y (nil_Copy) ?_
      intro _ _
      repeat' (first | (refine go_Y ?_; intros) | (refine gs_Y ?_ ?_ <;> (intro hgd; try (simp only [Bool.not_true, Bool.not_false] at hgd))) | (refine gc_Y ?_ ?_ <;> intro _) | fail)
      refine cl_Y (nil_Schema) ?_
      intro _ _
      repeat' (first | (refine go_Y ?_; intros) | (refine gs_Y ?_ ?_ <;> (intro hgd; try (simp only [Bool.not_true, Bool.not_false] at hgd))) | (refine gc_Y ?_ ?_ <;> intro _) | fail)
      refine cl_Y (alive14_spec P0 hU0) ?_
      intro _ _
      repeat' (first | (refine go_Y ?_; intros) | (refine gs_Y ?_ ?_ <;> (intro hgd; try (simp only [Bool.not_true, Bool.not_false] at hgd))) | (refine gc_Y ?_ ?_ <;> intro _) | fail)
      (refine rt_Y (y := P0) (hrs := Tryd.results8) (hv := ?_) (hφ := ?_))
      · rfl
      · exact hx1
end Go.Proofs.YtbagfdolcabniaaDoor
