import Derived.Test.YtphaegcoldpclaaDoorStF
import Derived.Test.YtphaegcoldpclaaDoorG5
import Derived.Test.YtphaegcoldpclaaDoorFwFv
set_option linter.unusedSimpArgs false
set_option linter.unusedVariables false
set_option maxRecDepth 100000
namespace Go.Proofs.YtphaegcoldpclaaDoor
open Go Go.Fx Go.Proofs Go.Pl

set_option maxHeartbeats 16000000 in
theorem alive20_spec (A : HProp) (hA : UT A) : FSpec Tryd.prog 7 [] [A] Unit (fun _ => True) (fun _ => .bool true) (fun _ => [A]) := by
  have e0 : (!decide ((0 : Int) = (0 : Int))) = false := by decide
  refine spec_intro [] _ Tryd.func7 rfl Tryd.ntmps7 (by rfl) (fun w0 R => ?_)
  repeat' (first | (refine go_Y ?_; intros) | (refine gs_Y ?_ ?_ <;> (intro hgd; try (simp only [Bool.not_true, Bool.not_false] at hgd))) | (refine gc_Y ?_ ?_ <;> intro _) | fail)
  refine cl_Y (two_spec) ?_
  rintro ⟨⟨v, hv⟩, tk, P0⟩ ⟨hsv0, hmc⟩
  dsimp only at hsv0 hmc ⊢
  refine opsL_map (fun _ h => pool_in (A := P0) (P := A) (Take.out2 takeD h)) ?_
  have hsv : SV (pool P0 A) v tk := hsv0.ext (Ext.poolL _ _)
  have hU : UT (pool P0 A) := hA.ext (Ext.pool _ _)
  have hEA : Ext A (pool P0 A) := Ext.pool _ _
  generalize pool P0 A = P at hsv hU hEA
  have htop := topics_ok v tk P hsv (by rw [hmc]; exact two_ok)
  have hat := at_spec v tk 2 (putMB 2 5 [0, 1] [0, 1]) P hsv av_size (by decide)
  have hno := of_spec v (.slice none 0 0) (.slice none 0 0) tk 0 5 [] [] P (row 25 1 (.slice none 0 0) []) hsv hU Vw.row (show Vw P 4 (.slice none 0 0) [] from vw_nil4) (fun x hx => by simp at hx) (fun x hx => by simp at hx) (by decide) (by decide) (by decide) (by decide) (by decide) (by decide)
  rw [hmc] at htop hat hno
  rw [av_at2] at hat
  rw [show ([] : List Cm).map Cm.c = [] from rfl, av_no] at hno
  dsimp only [cond_false, List.map_nil] at hno
  dsimp only [List.map_cons, List.map_nil, sqV, dpV] at hat
  refine opsL_map (fun _ h => nilRow (e := 25) (n := 1) h) ?_
  repeat' (first | (refine go_Y ?_; intros) | (refine gs_Y ?_ ?_ <;> (intro hgd; try (simp only [Bool.not_true, Bool.not_false] at hgd))) | (refine gc_Y ?_ ?_ <;> intro _) | fail)
  rename_i b1
  refine cl_Y (htop) ?_
  intro bt _
  repeat' (first | (refine go_Y ?_; intros) | (refine gs_Y ?_ ?_ <;> (intro hgd; try (simp only [Bool.not_true, Bool.not_false] at hgd))) | (refine gc_Y ?_ ?_ <;> intro _) | fail)
  refine ok_meetE (γ := V1s × V1s × Nat) (fun g ρ L => Knows ρ [(1, .pointer (some ⟨b1, 0, none⟩)), (2, .slice (some ⟨bt, 0, none⟩) (tk.length + 1) (tk.length + 1)), (3, g.1.1), (4, .pointer (some ⟨g.2.2, 0, none⟩)), (5, .int .i64 0)] ∧
      L = [pts b1 (.cells [v].toArray 24), row 9 1 (.slice (some ⟨bt, 0, none⟩) (tk.length + 1) (tk.length + 1)) ((topicsS twoS).map fun s => [.string s]), P, row 25 1 (.slice none 0 0) [], row 57 3 g.1.1 avOuts, row 25 1 g.2.1.1 [[.int .u64 0], [.int .u64 1]], pts g.2.2 (.cells [.int .u64 2, g.2.1.1].toArray 28)] ++ R) ?_ ?_
  · refine ok_draw_node (cv := []) 8 [1, 3, 4, 5, 7, 8, 13, 15] [pts b1 (.cells [v].toArray 24)] (by kernel_rfl) rfl (by decide +kernel) (by decide +kernel) (by decide +kernel) (takePre takeD) _ rfl ?_
    have d0 : V1s := ⟨.slice none 0 0, rfl⟩
    refine node_have 0 [12, 16] (γ := Option Addr × Nat × Option Addr × Nat × Option Addr × Nat × V1s × V1s × Nat) (fun ⟨pq, cq, pv, cv, pc, cc, vo, vs, b4⟩ ρ L => Knows ρ [(1, .pointer (some ⟨b1, 0, none⟩)), (2, .slice (some ⟨bt, 0, none⟩) (tk.length + 1) (tk.length + 1)), (3, vo.1), (15, .tuple #[vo.1, .agg #[.int .u64 2, vs.1], .int .i64 0]), (4, .pointer (some ⟨b4, 0, none⟩))] ∧ L = [pts b1 (.cells [v].toArray 24), row 9 1 (.slice (some ⟨bt, 0, none⟩) (tk.length + 1) (tk.length + 1)) ((topicsS twoS).map fun s => [.string s]), P, row 25 1 (.slice none 0 0) [], row 57 3 vo.1 avOuts, row 25 1 vs.1 [[.int .u64 0], [.int .u64 1]], pts b4 (.cells [.int .u64 2, vs.1].toArray 28)] ++ R) ?_ ?_
    · rintro ⟨pq, cq, pv, cv, pc, cc, vo, vs, b4⟩ ρ L ⟨hk, rfl⟩
      refine cont_regs hk ?_
      refine cont_node0 (by decide +kernel) ?_
      repeat' (first | (refine go_Y ?_; intros) | fail)
      refine cont_map (L' := [pts b1 (.cells [v].toArray 24), row 9 1 (.slice (some ⟨bt, 0, none⟩) (tk.length + 1) (tk.length + 1)) ((topicsS twoS).map fun s => [.string s]), P, row 25 1 (.slice none 0 0) [], row 57 3 vo.1 avOuts, row 25 1 vs.1 [[.int .u64 0], [.int .u64 1]], pts b4 (.cells [.int .u64 2, vs.1].toArray 28)] ++ R) entD ?_
      exact cont_meet (vo, vs, b4) ⟨⟨rfl, rfl, rfl, rfl, rfl, trivial⟩, rfl⟩
    intro n1_3_4_5_7_8_13_15
    refine node_have 1 [9, 10, 11, 12, 14, 15, 16] (γ := Option Addr × Nat × Option Addr × Nat × Option Addr × Nat × V1s × V1s × Nat) (fun ⟨pq, cq, pv, cv, pc, cc, vo, vs, b4⟩ ρ L => Knows ρ [(1, .pointer (some ⟨b1, 0, none⟩)), (2, .slice (some ⟨bt, 0, none⟩) (tk.length + 1) (tk.length + 1)), (24, .tuple #[vo.1, .agg #[.int .u64 2, vs.1], .int .i64 0]), (4, .pointer (some ⟨b4, 0, none⟩))] ∧ L = [pts b1 (.cells [v].toArray 24), row 9 1 (.slice (some ⟨bt, 0, none⟩) (tk.length + 1) (tk.length + 1)) ((topicsS twoS).map fun s => [.string s]), P, row 25 1 (.slice none 0 0) [], row 57 3 vo.1 avOuts, row 25 1 vs.1 [[.int .u64 0], [.int .u64 1]], pts b4 (.cells [.int .u64 0, .slice none 0 0].toArray 28)] ++ R) ?_ ?_
    · rintro ⟨pq, cq, pv, cv, pc, cc, vo, vs, b4⟩ ρ L ⟨hk, rfl⟩
      refine cont_regs hk ?_
      refine cont_node [] [(15, [9, 10, 11, 14, 15], [12, 16])] rfl (by decide +kernel) ?_
      refine nodeE1 ?_
      · dsimp only [List.length_cons, List.length_nil]
        repeat' (first | (refine go_Y ?_; intros) | fail)
        refine ops_learn (rowShapeS (e := 25) (n := 1) (v := vs.1) (xs := [[.int .u64 0], [.int .u64 1]]) (by decide) takeD) ?_
        rintro ⟨p, c, he, _, _⟩
        rw [he]
        repeat' (first | (refine go_Y ?_; intros) | fail)
        rw [← he]
        refine cont_map (L' := [pts b1 (.cells [v].toArray 24), row 9 1 (.slice (some ⟨bt, 0, none⟩) (tk.length + 1) (tk.length + 1)) ((topicsS twoS).map fun s => [.string s]), P, row 25 1 (.slice none 0 0) [], row 57 3 vo.1 avOuts, row 25 1 vs.1 [[.int .u64 0], [.int .u64 1]], pts b4 (.cells [.int .u64 2, vs.1].toArray 28)] ++ R) entD ?_
        exact n1_3_4_5_7_8_13_15 ⟨pq, cq, pv, cv, pc, cc, vo, vs, b4⟩ _ _ ⟨⟨rfl, rfl, rfl, rfl, rfl, trivial⟩, rfl⟩
    intro n1_3_4_5_7_8_13
    refine node_have 2 [9, 10, 11, 12, 13, 14, 15, 16] (γ := Option Addr × Nat × Option Addr × Nat × Option Addr × Nat × V1s × V1s × Nat) (fun ⟨pq, cq, pv, cv, pc, cc, vo, vs, b4⟩ ρ L => Knows ρ [(1, .pointer (some ⟨b1, 0, none⟩)), (2, .slice (some ⟨bt, 0, none⟩) (tk.length + 1) (tk.length + 1)), (24, .tuple #[vo.1, .agg #[.int .u64 2, vs.1], .int .i64 0])] ∧ L = [pts b1 (.cells [v].toArray 24), row 9 1 (.slice (some ⟨bt, 0, none⟩) (tk.length + 1) (tk.length + 1)) ((topicsS twoS).map fun s => [.string s]), P, row 25 1 (.slice none 0 0) [], row 57 3 vo.1 avOuts, row 25 1 vs.1 [[.int .u64 0], [.int .u64 1]]] ++ R) ?_ ?_
    · rintro ⟨pq, cq, pv, cv, pc, cc, vo, vs, b4⟩ ρ L ⟨hk, rfl⟩
      refine cont_regs hk ?_
      refine cont_node [] [(13, [13], [9, 10, 11, 12, 14, 15, 16])] rfl (by decide +kernel) ?_
      refine nodeE1 ?_
      · dsimp only [List.length_cons, List.length_nil]
        repeat' (first | (refine go_Y ?_; intros) | fail)
        rename_i w
        refine cont_map (L' := [pts b1 (.cells [v].toArray 24), row 9 1 (.slice (some ⟨bt, 0, none⟩) (tk.length + 1) (tk.length + 1)) ((topicsS twoS).map fun s => [.string s]), P, row 25 1 (.slice none 0 0) [], row 57 3 vo.1 avOuts, row 25 1 vs.1 [[.int .u64 0], [.int .u64 1]], pts w (.cells [.int .u64 0, .slice none 0 0].toArray 28)] ++ R) entD ?_
        exact n1_3_4_5_7_8_13 ⟨pq, cq, pv, cv, pc, cc, vo, vs, w⟩ _ _ ⟨⟨rfl, rfl, rfl, rfl, trivial⟩, rfl⟩
    intro n1_3_4_5_7_8
    refine node_have 2 [0, 2, 8, 9, 10, 11, 12, 14, 15, 16] (γ := Option Addr × Nat × Option Addr × Nat × Option Addr × Nat × V1s × V1s × Nat) (fun ⟨pq, cq, pv, cv, pc, cc, vo, vs, b4⟩ ρ L => Knows ρ [(1, .pointer (some ⟨b1, 0, none⟩)), (2, .slice (some ⟨bt, 0, none⟩) (tk.length + 1) (tk.length + 1)), (17, .slice pq 2 cq), (23, .slice pc 1 cc), (4, .pointer (some ⟨b4, 0, none⟩))] ∧ L = [pts b1 (.cells [v].toArray 24), row 9 1 (.slice (some ⟨bt, 0, none⟩) (tk.length + 1) (tk.length + 1)) ((topicsS twoS).map fun s => [.string s]), P, row 25 1 (.slice none 0 0) [], row 25 1 (.slice pq 2 cq) [[.int .u64 0], [.int .u64 0]], row 71 4 (.slice pv 2 cv) [valV (nV 1), valV (nV 2)], row 51 4 (.slice pc 1 cc) [[.int .u8 1, .int .i64 1, .slice none 0 0, .slice pv 2 cv]], pts b4 (.cells [.int .u64 0, .slice none 0 0].toArray 28)] ++ R) ?_ ?_
    · rintro ⟨pq, cq, pv, cv, pc, cc, vo, vs, b4⟩ ρ L ⟨hk, rfl⟩
      refine cont_regs hk ?_
      refine cont_node [] [(8, [0, 2, 8], [9, 10, 11, 12, 14, 15, 16])] rfl (by decide +kernel) ?_
      refine nodeE1 ?_
      · dsimp only [List.length_cons, List.length_nil]
        repeat' (first | (refine go_Y ?_; intros) | fail)
        refine clN_Y (avOf_spec v tk P hsv hU hmc (.slice pq 2 cq) (.slice pv 2 cv) (.slice pc 1 cc)) ?_
        rintro ⟨wo, ws⟩ _
        repeat' (first | (refine go_Y ?_; intros) | fail)
        refine cont_map (L' := [pts b1 (.cells [v].toArray 24), row 9 1 (.slice (some ⟨bt, 0, none⟩) (tk.length + 1) (tk.length + 1)) ((topicsS twoS).map fun s => [.string s]), P, row 25 1 (.slice none 0 0) [], row 57 3 wo.1 avOuts, row 25 1 ws.1 [[.int .u64 0], [.int .u64 1]], pts b4 (.cells [.int .u64 0, .slice none 0 0].toArray 28)] ++ R) entD ?_
        exact n1_3_4_5_7_8_13 ⟨pq, cq, pv, cv, pc, cc, wo, ws, b4⟩ _ _ ⟨⟨rfl, rfl, rfl, rfl, trivial⟩, rfl⟩
    intro n1_3_4_5_7_13
    refine node_have 3 [0, 2, 8, 9, 10, 11, 12, 13, 14, 15, 16] (γ := Option Addr × Nat × Option Addr × Nat × Option Addr × Nat × V1s × V1s × Nat) (fun ⟨pq, cq, pv, cv, pc, cc, vo, vs, b4⟩ ρ L => Knows ρ [(1, .pointer (some ⟨b1, 0, none⟩)), (2, .slice (some ⟨bt, 0, none⟩) (tk.length + 1) (tk.length + 1)), (17, .slice pq 2 cq), (23, .slice pc 1 cc)] ∧ L = [pts b1 (.cells [v].toArray 24), row 9 1 (.slice (some ⟨bt, 0, none⟩) (tk.length + 1) (tk.length + 1)) ((topicsS twoS).map fun s => [.string s]), P, row 25 1 (.slice none 0 0) [], row 25 1 (.slice pq 2 cq) [[.int .u64 0], [.int .u64 0]], row 71 4 (.slice pv 2 cv) [valV (nV 1), valV (nV 2)], row 51 4 (.slice pc 1 cc) [[.int .u8 1, .int .i64 1, .slice none 0 0, .slice pv 2 cv]]] ++ R) ?_ ?_
    · rintro ⟨pq, cq, pv, cv, pc, cc, vo, vs, b4⟩ ρ L ⟨hk, rfl⟩
      refine cont_regs hk ?_
      refine cont_node [] [(8, [0, 2, 8], [9, 10, 11, 12, 13, 14, 15, 16]), (13, [13], [0, 2, 8, 9, 10, 11, 12, 14, 15, 16])] rfl (by decide +kernel) ?_
      refine nodeE2 ?_ ?_
      · dsimp only [List.length_cons, List.length_nil]
        repeat' (first | (refine go_Y ?_; intros) | fail)
        refine clN_Y (avOf_spec v tk P hsv hU hmc (.slice pq 2 cq) (.slice pv 2 cv) (.slice pc 1 cc)) ?_
        rintro ⟨wo, ws⟩ _
        repeat' (first | (refine go_Y ?_; intros) | fail)
        refine cont_map (L' := [pts b1 (.cells [v].toArray 24), row 9 1 (.slice (some ⟨bt, 0, none⟩) (tk.length + 1) (tk.length + 1)) ((topicsS twoS).map fun s => [.string s]), P, row 25 1 (.slice none 0 0) [], row 57 3 wo.1 avOuts, row 25 1 ws.1 [[.int .u64 0], [.int .u64 1]]] ++ R) entD ?_
        exact n1_3_4_5_7_8 ⟨pq, cq, pv, cv, pc, cc, wo, ws, b4⟩ _ _ ⟨⟨rfl, rfl, rfl, trivial⟩, rfl⟩
      · dsimp only [List.length_cons, List.length_nil]
        repeat' (first | (refine go_Y ?_; intros) | fail)
        rename_i w
        refine cont_map (L' := [pts b1 (.cells [v].toArray 24), row 9 1 (.slice (some ⟨bt, 0, none⟩) (tk.length + 1) (tk.length + 1)) ((topicsS twoS).map fun s => [.string s]), P, row 25 1 (.slice none 0 0) [], row 25 1 (.slice pq 2 cq) [[.int .u64 0], [.int .u64 0]], row 71 4 (.slice pv 2 cv) [valV (nV 1), valV (nV 2)], row 51 4 (.slice pc 1 cc) [[.int .u8 1, .int .i64 1, .slice none 0 0, .slice pv 2 cv]], pts w (.cells [.int .u64 0, .slice none 0 0].toArray 28)] ++ R) entD ?_
        exact n1_3_4_5_7_13 ⟨pq, cq, pv, cv, pc, cc, vo, vs, w⟩ _ _ ⟨⟨rfl, rfl, rfl, rfl, rfl, trivial⟩, rfl⟩
    intro n1_3_4_5_7
    refine node_have 3 [0, 2, 6, 7, 8, 9, 10, 11, 12, 14, 15, 16] (γ := Option Addr × Nat × Option Addr × Nat × Option Addr × Nat × V1s × V1s × Nat) (fun ⟨pq, cq, pv, cv, pc, cc, vo, vs, b4⟩ ρ L => Knows ρ [(1, .pointer (some ⟨b1, 0, none⟩)), (2, .slice (some ⟨bt, 0, none⟩) (tk.length + 1) (tk.length + 1)), (17, .slice pq 2 cq), (21, .slice pv 2 cv), (4, .pointer (some ⟨b4, 0, none⟩))] ∧ L = [pts b1 (.cells [v].toArray 24), row 9 1 (.slice (some ⟨bt, 0, none⟩) (tk.length + 1) (tk.length + 1)) ((topicsS twoS).map fun s => [.string s]), P, row 25 1 (.slice none 0 0) [], row 25 1 (.slice pq 2 cq) [[.int .u64 0], [.int .u64 0]], row 71 4 (.slice pv 2 cv) [valV (nV 1), valV (nV 2)], pts b4 (.cells [.int .u64 0, .slice none 0 0].toArray 28)] ++ R) ?_ ?_
    · rintro ⟨pq, cq, pv, cv, pc, cc, vo, vs, b4⟩ ρ L ⟨hk, rfl⟩
      refine cont_regs hk ?_
      refine cont_node [] [(7, [6, 7], [0, 2, 8, 9, 10, 11, 12, 14, 15, 16])] rfl (by decide +kernel) ?_
      refine nodeE1 ?_
      · dsimp only [List.length_cons, List.length_nil]
        repeat' (first | (refine go_Y ?_; intros) | fail)
        rename_i w hw
        refine cont_learn (rowShapeS (e := 51) (n := 4) (v := w) (xs := [[.int .u8 1, .int .i64 1, .slice none 0 0, .slice pv 2 cv]]) (by decide) takeD) ?_
        rintro ⟨p, c, rfl, _, _⟩
        refine cont_map (L' := [pts b1 (.cells [v].toArray 24), row 9 1 (.slice (some ⟨bt, 0, none⟩) (tk.length + 1) (tk.length + 1)) ((topicsS twoS).map fun s => [.string s]), P, row 25 1 (.slice none 0 0) [], row 25 1 (.slice pq 2 cq) [[.int .u64 0], [.int .u64 0]], row 71 4 (.slice pv 2 cv) [valV (nV 1), valV (nV 2)], row 51 4 (.slice p 1 c) [[.int .u8 1, .int .i64 1, .slice none 0 0, .slice pv 2 cv]], pts b4 (.cells [.int .u64 0, .slice none 0 0].toArray 28)] ++ R) entD ?_
        exact n1_3_4_5_7_13 ⟨pq, cq, pv, cv, p, c, vo, vs, b4⟩ _ _ ⟨⟨rfl, rfl, rfl, rfl, rfl, trivial⟩, rfl⟩
    intro n1_3_4_5_13
    refine node_have 3 [0, 1, 2, 8, 9, 10, 11, 12, 14, 15, 16] (γ := Option Addr × Nat × Option Addr × Nat × Option Addr × Nat × V1s × V1s × Nat) (fun ⟨pq, cq, pv, cv, pc, cc, vo, vs, b4⟩ ρ L => Knows ρ [(1, .pointer (some ⟨b1, 0, none⟩)), (2, .slice (some ⟨bt, 0, none⟩) (tk.length + 1) (tk.length + 1)), (23, .slice pc 1 cc), (4, .pointer (some ⟨b4, 0, none⟩))] ∧ L = [pts b1 (.cells [v].toArray 24), row 9 1 (.slice (some ⟨bt, 0, none⟩) (tk.length + 1) (tk.length + 1)) ((topicsS twoS).map fun s => [.string s]), P, row 25 1 (.slice none 0 0) [], row 71 4 (.slice pv 2 cv) [valV (nV 1), valV (nV 2)], row 51 4 (.slice pc 1 cc) [[.int .u8 1, .int .i64 1, .slice none 0 0, .slice pv 2 cv]], pts b4 (.cells [.int .u64 0, .slice none 0 0].toArray 28)] ++ R) ?_ ?_
    · rintro ⟨pq, cq, pv, cv, pc, cc, vo, vs, b4⟩ ρ L ⟨hk, rfl⟩
      refine cont_regs hk ?_
      refine cont_node [] [(1, [1], [0, 2, 8, 9, 10, 11, 12, 14, 15, 16])] rfl (by decide +kernel) ?_
      refine nodeE1 ?_
      · dsimp only [List.length_cons, List.length_nil]
        repeat' (first | (refine go_Y ?_; intros) | fail)
        rename_i w hw
        refine cont_learn (rowShapeS (e := 25) (n := 1) (v := w) (xs := [[.int .u64 0], [.int .u64 0]]) (by decide) takeD) ?_
        rintro ⟨p, c, rfl, _, _⟩
        refine cont_map (L' := [pts b1 (.cells [v].toArray 24), row 9 1 (.slice (some ⟨bt, 0, none⟩) (tk.length + 1) (tk.length + 1)) ((topicsS twoS).map fun s => [.string s]), P, row 25 1 (.slice none 0 0) [], row 25 1 (.slice p 2 c) [[.int .u64 0], [.int .u64 0]], row 71 4 (.slice pv 2 cv) [valV (nV 1), valV (nV 2)], row 51 4 (.slice pc 1 cc) [[.int .u8 1, .int .i64 1, .slice none 0 0, .slice pv 2 cv]], pts b4 (.cells [.int .u64 0, .slice none 0 0].toArray 28)] ++ R) entD ?_
        exact n1_3_4_5_7_13 ⟨p, c, pv, cv, pc, cc, vo, vs, b4⟩ _ _ ⟨⟨rfl, rfl, rfl, rfl, rfl, trivial⟩, rfl⟩
    intro n3_4_5_7_13
    refine node_have 4 [0, 2, 6, 7, 8, 9, 10, 11, 12, 13, 14, 15, 16] (γ := Option Addr × Nat × Option Addr × Nat × Option Addr × Nat × V1s × V1s × Nat) (fun ⟨pq, cq, pv, cv, pc, cc, vo, vs, b4⟩ ρ L => Knows ρ [(1, .pointer (some ⟨b1, 0, none⟩)), (2, .slice (some ⟨bt, 0, none⟩) (tk.length + 1) (tk.length + 1)), (17, .slice pq 2 cq), (21, .slice pv 2 cv)] ∧ L = [pts b1 (.cells [v].toArray 24), row 9 1 (.slice (some ⟨bt, 0, none⟩) (tk.length + 1) (tk.length + 1)) ((topicsS twoS).map fun s => [.string s]), P, row 25 1 (.slice none 0 0) [], row 25 1 (.slice pq 2 cq) [[.int .u64 0], [.int .u64 0]], row 71 4 (.slice pv 2 cv) [valV (nV 1), valV (nV 2)]] ++ R) ?_ ?_
    · rintro ⟨pq, cq, pv, cv, pc, cc, vo, vs, b4⟩ ρ L ⟨hk, rfl⟩
      refine cont_regs hk ?_
      refine cont_node [] [(7, [6, 7], [0, 2, 8, 9, 10, 11, 12, 13, 14, 15, 16]), (13, [13], [0, 2, 6, 7, 8, 9, 10, 11, 12, 14, 15, 16])] rfl (by decide +kernel) ?_
      refine nodeE2 ?_ ?_
      · dsimp only [List.length_cons, List.length_nil]
        repeat' (first | (refine go_Y ?_; intros) | fail)
        rename_i w hw
        refine cont_learn (rowShapeS (e := 51) (n := 4) (v := w) (xs := [[.int .u8 1, .int .i64 1, .slice none 0 0, .slice pv 2 cv]]) (by decide) takeD) ?_
        rintro ⟨p, c, rfl, _, _⟩
        refine cont_map (L' := [pts b1 (.cells [v].toArray 24), row 9 1 (.slice (some ⟨bt, 0, none⟩) (tk.length + 1) (tk.length + 1)) ((topicsS twoS).map fun s => [.string s]), P, row 25 1 (.slice none 0 0) [], row 25 1 (.slice pq 2 cq) [[.int .u64 0], [.int .u64 0]], row 71 4 (.slice pv 2 cv) [valV (nV 1), valV (nV 2)], row 51 4 (.slice p 1 c) [[.int .u8 1, .int .i64 1, .slice none 0 0, .slice pv 2 cv]]] ++ R) entD ?_
        exact n1_3_4_5_7 ⟨pq, cq, pv, cv, p, c, vo, vs, b4⟩ _ _ ⟨⟨rfl, rfl, rfl, rfl, trivial⟩, rfl⟩
      · dsimp only [List.length_cons, List.length_nil]
        repeat' (first | (refine go_Y ?_; intros) | fail)
        rename_i w
        refine cont_map (L' := [pts b1 (.cells [v].toArray 24), row 9 1 (.slice (some ⟨bt, 0, none⟩) (tk.length + 1) (tk.length + 1)) ((topicsS twoS).map fun s => [.string s]), P, row 25 1 (.slice none 0 0) [], row 25 1 (.slice pq 2 cq) [[.int .u64 0], [.int .u64 0]], row 71 4 (.slice pv 2 cv) [valV (nV 1), valV (nV 2)], pts w (.cells [.int .u64 0, .slice none 0 0].toArray 28)] ++ R) entD ?_
        exact n1_3_4_5_13 ⟨pq, cq, pv, cv, pc, cc, vo, vs, w⟩ _ _ ⟨⟨rfl, rfl, rfl, rfl, rfl, trivial⟩, rfl⟩
    intro n1_3_4_5
    refine node_have 4 [0, 2, 5, 6, 7, 8, 9, 10, 11, 12, 14, 15, 16] (γ := Option Addr × Nat × Option Addr × Nat × Option Addr × Nat × V1s × V1s × Nat) (fun ⟨pq, cq, pv, cv, pc, cc, vo, vs, b4⟩ ρ L => Knows ρ [(1, .pointer (some ⟨b1, 0, none⟩)), (2, .slice (some ⟨bt, 0, none⟩) (tk.length + 1) (tk.length + 1)), (17, .slice pq 2 cq), (19, .agg (valV (nV 1)).toArray), (20, .agg (valV (nV 2)).toArray), (4, .pointer (some ⟨b4, 0, none⟩))] ∧ L = [pts b1 (.cells [v].toArray 24), row 9 1 (.slice (some ⟨bt, 0, none⟩) (tk.length + 1) (tk.length + 1)) ((topicsS twoS).map fun s => [.string s]), P, row 25 1 (.slice none 0 0) [], row 25 1 (.slice pq 2 cq) [[.int .u64 0], [.int .u64 0]], pts b4 (.cells [.int .u64 0, .slice none 0 0].toArray 28)] ++ R) ?_ ?_
    · rintro ⟨pq, cq, pv, cv, pc, cc, vo, vs, b4⟩ ρ L ⟨hk, rfl⟩
      refine cont_regs hk ?_
      refine cont_node [] [(5, [5], [0, 2, 6, 7, 8, 9, 10, 11, 12, 14, 15, 16])] rfl (by decide +kernel) ?_
      refine nodeE1 ?_
      · dsimp only [List.length_cons, List.length_nil]
        repeat' (first | (refine go_Y ?_; intros) | fail)
        rename_i w hw
        refine cont_learn (rowShapeS (e := 71) (n := 4) (v := w) (xs := [valV (nV 1), valV (nV 2)]) (by decide) takeD) ?_
        rintro ⟨p, c, rfl, _, _⟩
        refine cont_map (L' := [pts b1 (.cells [v].toArray 24), row 9 1 (.slice (some ⟨bt, 0, none⟩) (tk.length + 1) (tk.length + 1)) ((topicsS twoS).map fun s => [.string s]), P, row 25 1 (.slice none 0 0) [], row 25 1 (.slice pq 2 cq) [[.int .u64 0], [.int .u64 0]], row 71 4 (.slice p 2 c) [valV (nV 1), valV (nV 2)], pts b4 (.cells [.int .u64 0, .slice none 0 0].toArray 28)] ++ R) entD ?_
        exact n1_3_4_5_13 ⟨pq, cq, p, c, pc, cc, vo, vs, b4⟩ _ _ ⟨⟨rfl, rfl, rfl, rfl, rfl, trivial⟩, rfl⟩
    intro n1_3_4_13
    refine node_have 4 [0, 1, 2, 8, 9, 10, 11, 12, 13, 14, 15, 16] (γ := Option Addr × Nat × Option Addr × Nat × Option Addr × Nat × V1s × V1s × Nat) (fun ⟨pq, cq, pv, cv, pc, cc, vo, vs, b4⟩ ρ L => Knows ρ [(1, .pointer (some ⟨b1, 0, none⟩)), (2, .slice (some ⟨bt, 0, none⟩) (tk.length + 1) (tk.length + 1)), (23, .slice pc 1 cc)] ∧ L = [pts b1 (.cells [v].toArray 24), row 9 1 (.slice (some ⟨bt, 0, none⟩) (tk.length + 1) (tk.length + 1)) ((topicsS twoS).map fun s => [.string s]), P, row 25 1 (.slice none 0 0) [], row 71 4 (.slice pv 2 cv) [valV (nV 1), valV (nV 2)], row 51 4 (.slice pc 1 cc) [[.int .u8 1, .int .i64 1, .slice none 0 0, .slice pv 2 cv]]] ++ R) ?_ ?_
    · rintro ⟨pq, cq, pv, cv, pc, cc, vo, vs, b4⟩ ρ L ⟨hk, rfl⟩
      refine cont_regs hk ?_
      refine cont_node [] [(1, [1], [0, 2, 8, 9, 10, 11, 12, 13, 14, 15, 16]), (13, [13], [0, 1, 2, 8, 9, 10, 11, 12, 14, 15, 16])] rfl (by decide +kernel) ?_
      refine nodeE2 ?_ ?_
      · dsimp only [List.length_cons, List.length_nil]
        repeat' (first | (refine go_Y ?_; intros) | fail)
        rename_i w hw
        refine cont_learn (rowShapeS (e := 25) (n := 1) (v := w) (xs := [[.int .u64 0], [.int .u64 0]]) (by decide) takeD) ?_
        rintro ⟨p, c, rfl, _, _⟩
        refine cont_map (L' := [pts b1 (.cells [v].toArray 24), row 9 1 (.slice (some ⟨bt, 0, none⟩) (tk.length + 1) (tk.length + 1)) ((topicsS twoS).map fun s => [.string s]), P, row 25 1 (.slice none 0 0) [], row 25 1 (.slice p 2 c) [[.int .u64 0], [.int .u64 0]], row 71 4 (.slice pv 2 cv) [valV (nV 1), valV (nV 2)], row 51 4 (.slice pc 1 cc) [[.int .u8 1, .int .i64 1, .slice none 0 0, .slice pv 2 cv]]] ++ R) entD ?_
        exact n1_3_4_5_7 ⟨p, c, pv, cv, pc, cc, vo, vs, b4⟩ _ _ ⟨⟨rfl, rfl, rfl, rfl, trivial⟩, rfl⟩
      · dsimp only [List.length_cons, List.length_nil]
        repeat' (first | (refine go_Y ?_; intros) | fail)
        rename_i w
        refine cont_map (L' := [pts b1 (.cells [v].toArray 24), row 9 1 (.slice (some ⟨bt, 0, none⟩) (tk.length + 1) (tk.length + 1)) ((topicsS twoS).map fun s => [.string s]), P, row 25 1 (.slice none 0 0) [], row 71 4 (.slice pv 2 cv) [valV (nV 1), valV (nV 2)], row 51 4 (.slice pc 1 cc) [[.int .u8 1, .int .i64 1, .slice none 0 0, .slice pv 2 cv]], pts w (.cells [.int .u64 0, .slice none 0 0].toArray 28)] ++ R) entD ?_
        exact n3_4_5_7_13 ⟨pq, cq, pv, cv, pc, cc, vo, vs, w⟩ _ _ ⟨⟨rfl, rfl, rfl, rfl, trivial⟩, rfl⟩
    intro n3_4_5_7
    refine node_have 4 [0, 1, 2, 6, 7, 8, 9, 10, 11, 12, 14, 15, 16] (γ := Option Addr × Nat × Option Addr × Nat × Option Addr × Nat × V1s × V1s × Nat) (fun ⟨pq, cq, pv, cv, pc, cc, vo, vs, b4⟩ ρ L => Knows ρ [(1, .pointer (some ⟨b1, 0, none⟩)), (2, .slice (some ⟨bt, 0, none⟩) (tk.length + 1) (tk.length + 1)), (21, .slice pv 2 cv), (4, .pointer (some ⟨b4, 0, none⟩))] ∧ L = [pts b1 (.cells [v].toArray 24), row 9 1 (.slice (some ⟨bt, 0, none⟩) (tk.length + 1) (tk.length + 1)) ((topicsS twoS).map fun s => [.string s]), P, row 25 1 (.slice none 0 0) [], row 71 4 (.slice pv 2 cv) [valV (nV 1), valV (nV 2)], pts b4 (.cells [.int .u64 0, .slice none 0 0].toArray 28)] ++ R) ?_ ?_
    · rintro ⟨pq, cq, pv, cv, pc, cc, vo, vs, b4⟩ ρ L ⟨hk, rfl⟩
      refine cont_regs hk ?_
      refine cont_node [] [(1, [1], [0, 2, 6, 7, 8, 9, 10, 11, 12, 14, 15, 16]), (7, [6, 7], [0, 1, 2, 8, 9, 10, 11, 12, 14, 15, 16])] rfl (by decide +kernel) ?_
      refine nodeE2 ?_ ?_
      · dsimp only [List.length_cons, List.length_nil]
        repeat' (first | (refine go_Y ?_; intros) | fail)
        rename_i w hw
        refine cont_learn (rowShapeS (e := 25) (n := 1) (v := w) (xs := [[.int .u64 0], [.int .u64 0]]) (by decide) takeD) ?_
        rintro ⟨p, c, rfl, _, _⟩
        refine cont_map (L' := [pts b1 (.cells [v].toArray 24), row 9 1 (.slice (some ⟨bt, 0, none⟩) (tk.length + 1) (tk.length + 1)) ((topicsS twoS).map fun s => [.string s]), P, row 25 1 (.slice none 0 0) [], row 25 1 (.slice p 2 c) [[.int .u64 0], [.int .u64 0]], row 71 4 (.slice pv 2 cv) [valV (nV 1), valV (nV 2)], pts b4 (.cells [.int .u64 0, .slice none 0 0].toArray 28)] ++ R) entD ?_
        exact n1_3_4_5_13 ⟨p, c, pv, cv, pc, cc, vo, vs, b4⟩ _ _ ⟨⟨rfl, rfl, rfl, rfl, rfl, trivial⟩, rfl⟩
      · dsimp only [List.length_cons, List.length_nil]
        repeat' (first | (refine go_Y ?_; intros) | fail)
        rename_i w hw
        refine cont_learn (rowShapeS (e := 51) (n := 4) (v := w) (xs := [[.int .u8 1, .int .i64 1, .slice none 0 0, .slice pv 2 cv]]) (by decide) takeD) ?_
        rintro ⟨p, c, rfl, _, _⟩
        refine cont_map (L' := [pts b1 (.cells [v].toArray 24), row 9 1 (.slice (some ⟨bt, 0, none⟩) (tk.length + 1) (tk.length + 1)) ((topicsS twoS).map fun s => [.string s]), P, row 25 1 (.slice none 0 0) [], row 71 4 (.slice pv 2 cv) [valV (nV 1), valV (nV 2)], row 51 4 (.slice p 1 c) [[.int .u8 1, .int .i64 1, .slice none 0 0, .slice pv 2 cv]], pts b4 (.cells [.int .u64 0, .slice none 0 0].toArray 28)] ++ R) entD ?_
        exact n3_4_5_7_13 ⟨pq, cq, pv, cv, p, c, vo, vs, b4⟩ _ _ ⟨⟨rfl, rfl, rfl, rfl, trivial⟩, rfl⟩
    intro n3_4_5_13
    refine node_have 5 [0, 2, 5, 6, 7, 8, 9, 10, 11, 12, 13, 14, 15, 16] (γ := Option Addr × Nat × Option Addr × Nat × Option Addr × Nat × V1s × V1s × Nat) (fun ⟨pq, cq, pv, cv, pc, cc, vo, vs, b4⟩ ρ L => Knows ρ [(1, .pointer (some ⟨b1, 0, none⟩)), (2, .slice (some ⟨bt, 0, none⟩) (tk.length + 1) (tk.length + 1)), (17, .slice pq 2 cq), (19, .agg (valV (nV 1)).toArray), (20, .agg (valV (nV 2)).toArray)] ∧ L = [pts b1 (.cells [v].toArray 24), row 9 1 (.slice (some ⟨bt, 0, none⟩) (tk.length + 1) (tk.length + 1)) ((topicsS twoS).map fun s => [.string s]), P, row 25 1 (.slice none 0 0) [], row 25 1 (.slice pq 2 cq) [[.int .u64 0], [.int .u64 0]]] ++ R) ?_ ?_
    · rintro ⟨pq, cq, pv, cv, pc, cc, vo, vs, b4⟩ ρ L ⟨hk, rfl⟩
      refine cont_regs hk ?_
      refine cont_node [] [(5, [5], [0, 2, 6, 7, 8, 9, 10, 11, 12, 13, 14, 15, 16]), (13, [13], [0, 2, 5, 6, 7, 8, 9, 10, 11, 12, 14, 15, 16])] rfl (by decide +kernel) ?_
      refine nodeE2 ?_ ?_
      · dsimp only [List.length_cons, List.length_nil]
        repeat' (first | (refine go_Y ?_; intros) | fail)
        rename_i w hw
        refine cont_learn (rowShapeS (e := 71) (n := 4) (v := w) (xs := [valV (nV 1), valV (nV 2)]) (by decide) takeD) ?_
        rintro ⟨p, c, rfl, _, _⟩
        refine cont_map (L' := [pts b1 (.cells [v].toArray 24), row 9 1 (.slice (some ⟨bt, 0, none⟩) (tk.length + 1) (tk.length + 1)) ((topicsS twoS).map fun s => [.string s]), P, row 25 1 (.slice none 0 0) [], row 25 1 (.slice pq 2 cq) [[.int .u64 0], [.int .u64 0]], row 71 4 (.slice p 2 c) [valV (nV 1), valV (nV 2)]] ++ R) entD ?_
        exact n1_3_4_5 ⟨pq, cq, p, c, pc, cc, vo, vs, b4⟩ _ _ ⟨⟨rfl, rfl, rfl, rfl, trivial⟩, rfl⟩
      · dsimp only [List.length_cons, List.length_nil]
        repeat' (first | (refine go_Y ?_; intros) | fail)
        rename_i w
        refine cont_map (L' := [pts b1 (.cells [v].toArray 24), row 9 1 (.slice (some ⟨bt, 0, none⟩) (tk.length + 1) (tk.length + 1)) ((topicsS twoS).map fun s => [.string s]), P, row 25 1 (.slice none 0 0) [], row 25 1 (.slice pq 2 cq) [[.int .u64 0], [.int .u64 0]], pts w (.cells [.int .u64 0, .slice none 0 0].toArray 28)] ++ R) entD ?_
        exact n1_3_4_13 ⟨pq, cq, pv, cv, pc, cc, vo, vs, w⟩ _ _ ⟨⟨rfl, rfl, rfl, rfl, rfl, rfl, trivial⟩, rfl⟩
    intro n1_3_4
    refine node_have 5 [0, 2, 4, 5, 6, 7, 8, 9, 10, 11, 12, 14, 15, 16] (γ := Option Addr × Nat × Option Addr × Nat × Option Addr × Nat × V1s × V1s × Nat) (fun ⟨pq, cq, pv, cv, pc, cc, vo, vs, b4⟩ ρ L => Knows ρ [(1, .pointer (some ⟨b1, 0, none⟩)), (2, .slice (some ⟨bt, 0, none⟩) (tk.length + 1) (tk.length + 1)), (17, .slice pq 2 cq), (19, .agg (valV (nV 1)).toArray), (4, .pointer (some ⟨b4, 0, none⟩))] ∧ L = [pts b1 (.cells [v].toArray 24), row 9 1 (.slice (some ⟨bt, 0, none⟩) (tk.length + 1) (tk.length + 1)) ((topicsS twoS).map fun s => [.string s]), P, row 25 1 (.slice none 0 0) [], row 25 1 (.slice pq 2 cq) [[.int .u64 0], [.int .u64 0]], pts b4 (.cells [.int .u64 0, .slice none 0 0].toArray 28)] ++ R) ?_ ?_
    · rintro ⟨pq, cq, pv, cv, pc, cc, vo, vs, b4⟩ ρ L ⟨hk, rfl⟩
      refine cont_regs hk ?_
      refine cont_node [] [(4, [4], [0, 2, 5, 6, 7, 8, 9, 10, 11, 12, 14, 15, 16])] rfl (by decide +kernel) ?_
      refine nodeE1 ?_
      · dsimp only [List.length_cons, List.length_nil]
        repeat' (first | (refine go_Y ?_; intros) | fail)
        refine clN_Y (num20_spec 2) ?_
        intro _ _
        repeat' (first | (refine go_Y ?_; intros) | fail)
        refine cont_map (L' := [pts b1 (.cells [v].toArray 24), row 9 1 (.slice (some ⟨bt, 0, none⟩) (tk.length + 1) (tk.length + 1)) ((topicsS twoS).map fun s => [.string s]), P, row 25 1 (.slice none 0 0) [], row 25 1 (.slice pq 2 cq) [[.int .u64 0], [.int .u64 0]], pts b4 (.cells [.int .u64 0, .slice none 0 0].toArray 28)] ++ R) entD ?_
        exact n1_3_4_13 ⟨pq, cq, pv, cv, pc, cc, vo, vs, b4⟩ _ _ ⟨⟨rfl, rfl, rfl, rfl, rfl, rfl, trivial⟩, rfl⟩
    intro n1_3_13
    refine node_have 5 [0, 1, 2, 6, 7, 8, 9, 10, 11, 12, 13, 14, 15, 16] (γ := Option Addr × Nat × Option Addr × Nat × Option Addr × Nat × V1s × V1s × Nat) (fun ⟨pq, cq, pv, cv, pc, cc, vo, vs, b4⟩ ρ L => Knows ρ [(1, .pointer (some ⟨b1, 0, none⟩)), (2, .slice (some ⟨bt, 0, none⟩) (tk.length + 1) (tk.length + 1)), (21, .slice pv 2 cv)] ∧ L = [pts b1 (.cells [v].toArray 24), row 9 1 (.slice (some ⟨bt, 0, none⟩) (tk.length + 1) (tk.length + 1)) ((topicsS twoS).map fun s => [.string s]), P, row 25 1 (.slice none 0 0) [], row 71 4 (.slice pv 2 cv) [valV (nV 1), valV (nV 2)]] ++ R) ?_ ?_
    · rintro ⟨pq, cq, pv, cv, pc, cc, vo, vs, b4⟩ ρ L ⟨hk, rfl⟩
      refine cont_regs hk ?_
      refine cont_node [] [(1, [1], [0, 2, 6, 7, 8, 9, 10, 11, 12, 13, 14, 15, 16]), (7, [6, 7], [0, 1, 2, 8, 9, 10, 11, 12, 13, 14, 15, 16]), (13, [13], [0, 1, 2, 6, 7, 8, 9, 10, 11, 12, 14, 15, 16])] rfl (by decide +kernel) ?_
      refine nodeE3 ?_ ?_ ?_
      · dsimp only [List.length_cons, List.length_nil]
        repeat' (first | (refine go_Y ?_; intros) | fail)
        rename_i w hw
        refine cont_learn (rowShapeS (e := 25) (n := 1) (v := w) (xs := [[.int .u64 0], [.int .u64 0]]) (by decide) takeD) ?_
        rintro ⟨p, c, rfl, _, _⟩
        refine cont_map (L' := [pts b1 (.cells [v].toArray 24), row 9 1 (.slice (some ⟨bt, 0, none⟩) (tk.length + 1) (tk.length + 1)) ((topicsS twoS).map fun s => [.string s]), P, row 25 1 (.slice none 0 0) [], row 25 1 (.slice p 2 c) [[.int .u64 0], [.int .u64 0]], row 71 4 (.slice pv 2 cv) [valV (nV 1), valV (nV 2)]] ++ R) entD ?_
        exact n1_3_4_5 ⟨p, c, pv, cv, pc, cc, vo, vs, b4⟩ _ _ ⟨⟨rfl, rfl, rfl, rfl, trivial⟩, rfl⟩
      · dsimp only [List.length_cons, List.length_nil]
        repeat' (first | (refine go_Y ?_; intros) | fail)
        rename_i w hw
        refine cont_learn (rowShapeS (e := 51) (n := 4) (v := w) (xs := [[.int .u8 1, .int .i64 1, .slice none 0 0, .slice pv 2 cv]]) (by decide) takeD) ?_
        rintro ⟨p, c, rfl, _, _⟩
        refine cont_map (L' := [pts b1 (.cells [v].toArray 24), row 9 1 (.slice (some ⟨bt, 0, none⟩) (tk.length + 1) (tk.length + 1)) ((topicsS twoS).map fun s => [.string s]), P, row 25 1 (.slice none 0 0) [], row 71 4 (.slice pv 2 cv) [valV (nV 1), valV (nV 2)], row 51 4 (.slice p 1 c) [[.int .u8 1, .int .i64 1, .slice none 0 0, .slice pv 2 cv]]] ++ R) entD ?_
        exact n3_4_5_7 ⟨pq, cq, pv, cv, p, c, vo, vs, b4⟩ _ _ ⟨⟨rfl, rfl, rfl, trivial⟩, rfl⟩
      · dsimp only [List.length_cons, List.length_nil]
        repeat' (first | (refine go_Y ?_; intros) | fail)
        rename_i w
        refine cont_map (L' := [pts b1 (.cells [v].toArray 24), row 9 1 (.slice (some ⟨bt, 0, none⟩) (tk.length + 1) (tk.length + 1)) ((topicsS twoS).map fun s => [.string s]), P, row 25 1 (.slice none 0 0) [], row 71 4 (.slice pv 2 cv) [valV (nV 1), valV (nV 2)], pts w (.cells [.int .u64 0, .slice none 0 0].toArray 28)] ++ R) entD ?_
        exact n3_4_5_13 ⟨pq, cq, pv, cv, pc, cc, vo, vs, w⟩ _ _ ⟨⟨rfl, rfl, rfl, rfl, trivial⟩, rfl⟩
    intro n3_4_5
    refine node_have 5 [0, 1, 2, 5, 6, 7, 8, 9, 10, 11, 12, 14, 15, 16] (γ := Option Addr × Nat × Option Addr × Nat × Option Addr × Nat × V1s × V1s × Nat) (fun ⟨pq, cq, pv, cv, pc, cc, vo, vs, b4⟩ ρ L => Knows ρ [(1, .pointer (some ⟨b1, 0, none⟩)), (2, .slice (some ⟨bt, 0, none⟩) (tk.length + 1) (tk.length + 1)), (19, .agg (valV (nV 1)).toArray), (20, .agg (valV (nV 2)).toArray), (4, .pointer (some ⟨b4, 0, none⟩))] ∧ L = [pts b1 (.cells [v].toArray 24), row 9 1 (.slice (some ⟨bt, 0, none⟩) (tk.length + 1) (tk.length + 1)) ((topicsS twoS).map fun s => [.string s]), P, row 25 1 (.slice none 0 0) [], pts b4 (.cells [.int .u64 0, .slice none 0 0].toArray 28)] ++ R) ?_ ?_
    · rintro ⟨pq, cq, pv, cv, pc, cc, vo, vs, b4⟩ ρ L ⟨hk, rfl⟩
      refine cont_regs hk ?_
      refine cont_node [] [(1, [1], [0, 2, 5, 6, 7, 8, 9, 10, 11, 12, 14, 15, 16]), (5, [5], [0, 1, 2, 6, 7, 8, 9, 10, 11, 12, 14, 15, 16])] rfl (by decide +kernel) ?_
      refine nodeE2 ?_ ?_
      · dsimp only [List.length_cons, List.length_nil]
        repeat' (first | (refine go_Y ?_; intros) | fail)
        rename_i w hw
        refine cont_learn (rowShapeS (e := 25) (n := 1) (v := w) (xs := [[.int .u64 0], [.int .u64 0]]) (by decide) takeD) ?_
        rintro ⟨p, c, rfl, _, _⟩
        refine cont_map (L' := [pts b1 (.cells [v].toArray 24), row 9 1 (.slice (some ⟨bt, 0, none⟩) (tk.length + 1) (tk.length + 1)) ((topicsS twoS).map fun s => [.string s]), P, row 25 1 (.slice none 0 0) [], row 25 1 (.slice p 2 c) [[.int .u64 0], [.int .u64 0]], pts b4 (.cells [.int .u64 0, .slice none 0 0].toArray 28)] ++ R) entD ?_
        exact n1_3_4_13 ⟨p, c, pv, cv, pc, cc, vo, vs, b4⟩ _ _ ⟨⟨rfl, rfl, rfl, rfl, rfl, rfl, trivial⟩, rfl⟩
      · dsimp only [List.length_cons, List.length_nil]
        repeat' (first | (refine go_Y ?_; intros) | fail)
        rename_i w hw
        refine cont_learn (rowShapeS (e := 71) (n := 4) (v := w) (xs := [valV (nV 1), valV (nV 2)]) (by decide) takeD) ?_
        rintro ⟨p, c, rfl, _, _⟩
        refine cont_map (L' := [pts b1 (.cells [v].toArray 24), row 9 1 (.slice (some ⟨bt, 0, none⟩) (tk.length + 1) (tk.length + 1)) ((topicsS twoS).map fun s => [.string s]), P, row 25 1 (.slice none 0 0) [], row 71 4 (.slice p 2 c) [valV (nV 1), valV (nV 2)], pts b4 (.cells [.int .u64 0, .slice none 0 0].toArray 28)] ++ R) entD ?_
        exact n3_4_5_13 ⟨pq, cq, p, c, pc, cc, vo, vs, b4⟩ _ _ ⟨⟨rfl, rfl, rfl, rfl, trivial⟩, rfl⟩
    intro n3_4_13
    refine node_have 6 [0, 2, 4, 5, 6, 7, 8, 9, 10, 11, 12, 13, 14, 15, 16] (γ := Option Addr × Nat × Option Addr × Nat × Option Addr × Nat × V1s × V1s × Nat) (fun ⟨pq, cq, pv, cv, pc, cc, vo, vs, b4⟩ ρ L => Knows ρ [(1, .pointer (some ⟨b1, 0, none⟩)), (2, .slice (some ⟨bt, 0, none⟩) (tk.length + 1) (tk.length + 1)), (17, .slice pq 2 cq), (19, .agg (valV (nV 1)).toArray)] ∧ L = [pts b1 (.cells [v].toArray 24), row 9 1 (.slice (some ⟨bt, 0, none⟩) (tk.length + 1) (tk.length + 1)) ((topicsS twoS).map fun s => [.string s]), P, row 25 1 (.slice none 0 0) [], row 25 1 (.slice pq 2 cq) [[.int .u64 0], [.int .u64 0]]] ++ R) ?_ ?_
    · rintro ⟨pq, cq, pv, cv, pc, cc, vo, vs, b4⟩ ρ L ⟨hk, rfl⟩
      refine cont_regs hk ?_
      refine cont_node [] [(4, [4], [0, 2, 5, 6, 7, 8, 9, 10, 11, 12, 13, 14, 15, 16]), (13, [13], [0, 2, 4, 5, 6, 7, 8, 9, 10, 11, 12, 14, 15, 16])] rfl (by decide +kernel) ?_
      refine nodeE2 ?_ ?_
      · dsimp only [List.length_cons, List.length_nil]
        repeat' (first | (refine go_Y ?_; intros) | fail)
        refine clN_Y (num20_spec 2) ?_
        intro _ _
        repeat' (first | (refine go_Y ?_; intros) | fail)
        refine cont_map (L' := [pts b1 (.cells [v].toArray 24), row 9 1 (.slice (some ⟨bt, 0, none⟩) (tk.length + 1) (tk.length + 1)) ((topicsS twoS).map fun s => [.string s]), P, row 25 1 (.slice none 0 0) [], row 25 1 (.slice pq 2 cq) [[.int .u64 0], [.int .u64 0]]] ++ R) entD ?_
        exact n1_3_4 ⟨pq, cq, pv, cv, pc, cc, vo, vs, b4⟩ _ _ ⟨⟨rfl, rfl, rfl, rfl, rfl, trivial⟩, rfl⟩
      · dsimp only [List.length_cons, List.length_nil]
        repeat' (first | (refine go_Y ?_; intros) | fail)
        rename_i w
        refine cont_map (L' := [pts b1 (.cells [v].toArray 24), row 9 1 (.slice (some ⟨bt, 0, none⟩) (tk.length + 1) (tk.length + 1)) ((topicsS twoS).map fun s => [.string s]), P, row 25 1 (.slice none 0 0) [], row 25 1 (.slice pq 2 cq) [[.int .u64 0], [.int .u64 0]], pts w (.cells [.int .u64 0, .slice none 0 0].toArray 28)] ++ R) entD ?_
        exact n1_3_13 ⟨pq, cq, pv, cv, pc, cc, vo, vs, w⟩ _ _ ⟨⟨rfl, rfl, rfl, rfl, rfl, trivial⟩, rfl⟩
    intro n1_3
    refine node_have 6 [0, 2, 3, 4, 5, 6, 7, 8, 9, 10, 11, 12, 14, 15, 16] (γ := Option Addr × Nat × Option Addr × Nat × Option Addr × Nat × V1s × V1s × Nat) (fun ⟨pq, cq, pv, cv, pc, cc, vo, vs, b4⟩ ρ L => Knows ρ [(1, .pointer (some ⟨b1, 0, none⟩)), (2, .slice (some ⟨bt, 0, none⟩) (tk.length + 1) (tk.length + 1)), (17, .slice pq 2 cq), (4, .pointer (some ⟨b4, 0, none⟩))] ∧ L = [pts b1 (.cells [v].toArray 24), row 9 1 (.slice (some ⟨bt, 0, none⟩) (tk.length + 1) (tk.length + 1)) ((topicsS twoS).map fun s => [.string s]), P, row 25 1 (.slice none 0 0) [], row 25 1 (.slice pq 2 cq) [[.int .u64 0], [.int .u64 0]], pts b4 (.cells [.int .u64 0, .slice none 0 0].toArray 28)] ++ R) ?_ ?_
    · rintro ⟨pq, cq, pv, cv, pc, cc, vo, vs, b4⟩ ρ L ⟨hk, rfl⟩
      refine cont_regs hk ?_
      refine cont_node [] [(3, [3], [0, 2, 4, 5, 6, 7, 8, 9, 10, 11, 12, 14, 15, 16])] rfl (by decide +kernel) ?_
      refine nodeE1 ?_
      · dsimp only [List.length_cons, List.length_nil]
        repeat' (first | (refine go_Y ?_; intros) | fail)
        refine clN_Y (num20_spec 1) ?_
        intro _ _
        repeat' (first | (refine go_Y ?_; intros) | fail)
        refine cont_map (L' := [pts b1 (.cells [v].toArray 24), row 9 1 (.slice (some ⟨bt, 0, none⟩) (tk.length + 1) (tk.length + 1)) ((topicsS twoS).map fun s => [.string s]), P, row 25 1 (.slice none 0 0) [], row 25 1 (.slice pq 2 cq) [[.int .u64 0], [.int .u64 0]], pts b4 (.cells [.int .u64 0, .slice none 0 0].toArray 28)] ++ R) entD ?_
        exact n1_3_13 ⟨pq, cq, pv, cv, pc, cc, vo, vs, b4⟩ _ _ ⟨⟨rfl, rfl, rfl, rfl, rfl, trivial⟩, rfl⟩
    intro n1_13
    refine node_have 6 [0, 1, 2, 5, 6, 7, 8, 9, 10, 11, 12, 13, 14, 15, 16] (γ := Option Addr × Nat × Option Addr × Nat × Option Addr × Nat × V1s × V1s × Nat) (fun ⟨pq, cq, pv, cv, pc, cc, vo, vs, b4⟩ ρ L => Knows ρ [(1, .pointer (some ⟨b1, 0, none⟩)), (2, .slice (some ⟨bt, 0, none⟩) (tk.length + 1) (tk.length + 1)), (19, .agg (valV (nV 1)).toArray), (20, .agg (valV (nV 2)).toArray)] ∧ L = [pts b1 (.cells [v].toArray 24), row 9 1 (.slice (some ⟨bt, 0, none⟩) (tk.length + 1) (tk.length + 1)) ((topicsS twoS).map fun s => [.string s]), P, row 25 1 (.slice none 0 0) []] ++ R) ?_ ?_
    · rintro ⟨pq, cq, pv, cv, pc, cc, vo, vs, b4⟩ ρ L ⟨hk, rfl⟩
      refine cont_regs hk ?_
      refine cont_node [] [(1, [1], [0, 2, 5, 6, 7, 8, 9, 10, 11, 12, 13, 14, 15, 16]), (5, [5], [0, 1, 2, 6, 7, 8, 9, 10, 11, 12, 13, 14, 15, 16]), (13, [13], [0, 1, 2, 5, 6, 7, 8, 9, 10, 11, 12, 14, 15, 16])] rfl (by decide +kernel) ?_
      refine nodeE3 ?_ ?_ ?_
      · dsimp only [List.length_cons, List.length_nil]
        repeat' (first | (refine go_Y ?_; intros) | fail)
        rename_i w hw
        refine cont_learn (rowShapeS (e := 25) (n := 1) (v := w) (xs := [[.int .u64 0], [.int .u64 0]]) (by decide) takeD) ?_
        rintro ⟨p, c, rfl, _, _⟩
        refine cont_map (L' := [pts b1 (.cells [v].toArray 24), row 9 1 (.slice (some ⟨bt, 0, none⟩) (tk.length + 1) (tk.length + 1)) ((topicsS twoS).map fun s => [.string s]), P, row 25 1 (.slice none 0 0) [], row 25 1 (.slice p 2 c) [[.int .u64 0], [.int .u64 0]]] ++ R) entD ?_
        exact n1_3_4 ⟨p, c, pv, cv, pc, cc, vo, vs, b4⟩ _ _ ⟨⟨rfl, rfl, rfl, rfl, rfl, trivial⟩, rfl⟩
      · dsimp only [List.length_cons, List.length_nil]
        repeat' (first | (refine go_Y ?_; intros) | fail)
        rename_i w hw
        refine cont_learn (rowShapeS (e := 71) (n := 4) (v := w) (xs := [valV (nV 1), valV (nV 2)]) (by decide) takeD) ?_
        rintro ⟨p, c, rfl, _, _⟩
        refine cont_map (L' := [pts b1 (.cells [v].toArray 24), row 9 1 (.slice (some ⟨bt, 0, none⟩) (tk.length + 1) (tk.length + 1)) ((topicsS twoS).map fun s => [.string s]), P, row 25 1 (.slice none 0 0) [], row 71 4 (.slice p 2 c) [valV (nV 1), valV (nV 2)]] ++ R) entD ?_
        exact n3_4_5 ⟨pq, cq, p, c, pc, cc, vo, vs, b4⟩ _ _ ⟨⟨rfl, rfl, rfl, trivial⟩, rfl⟩
      · dsimp only [List.length_cons, List.length_nil]
        repeat' (first | (refine go_Y ?_; intros) | fail)
        rename_i w
        refine cont_map (L' := [pts b1 (.cells [v].toArray 24), row 9 1 (.slice (some ⟨bt, 0, none⟩) (tk.length + 1) (tk.length + 1)) ((topicsS twoS).map fun s => [.string s]), P, row 25 1 (.slice none 0 0) [], pts w (.cells [.int .u64 0, .slice none 0 0].toArray 28)] ++ R) entD ?_
        exact n3_4_13 ⟨pq, cq, pv, cv, pc, cc, vo, vs, w⟩ _ _ ⟨⟨rfl, rfl, rfl, rfl, rfl, trivial⟩, rfl⟩
    intro n3_4
    refine node_have 6 [0, 1, 2, 4, 5, 6, 7, 8, 9, 10, 11, 12, 14, 15, 16] (γ := Option Addr × Nat × Option Addr × Nat × Option Addr × Nat × V1s × V1s × Nat) (fun ⟨pq, cq, pv, cv, pc, cc, vo, vs, b4⟩ ρ L => Knows ρ [(1, .pointer (some ⟨b1, 0, none⟩)), (2, .slice (some ⟨bt, 0, none⟩) (tk.length + 1) (tk.length + 1)), (19, .agg (valV (nV 1)).toArray), (4, .pointer (some ⟨b4, 0, none⟩))] ∧ L = [pts b1 (.cells [v].toArray 24), row 9 1 (.slice (some ⟨bt, 0, none⟩) (tk.length + 1) (tk.length + 1)) ((topicsS twoS).map fun s => [.string s]), P, row 25 1 (.slice none 0 0) [], pts b4 (.cells [.int .u64 0, .slice none 0 0].toArray 28)] ++ R) ?_ ?_
    · rintro ⟨pq, cq, pv, cv, pc, cc, vo, vs, b4⟩ ρ L ⟨hk, rfl⟩
      refine cont_regs hk ?_
      refine cont_node [] [(1, [1], [0, 2, 4, 5, 6, 7, 8, 9, 10, 11, 12, 14, 15, 16]), (4, [4], [0, 1, 2, 5, 6, 7, 8, 9, 10, 11, 12, 14, 15, 16])] rfl (by decide +kernel) ?_
      refine nodeE2 ?_ ?_
      · dsimp only [List.length_cons, List.length_nil]
        repeat' (first | (refine go_Y ?_; intros) | fail)
        rename_i w hw
        refine cont_learn (rowShapeS (e := 25) (n := 1) (v := w) (xs := [[.int .u64 0], [.int .u64 0]]) (by decide) takeD) ?_
        rintro ⟨p, c, rfl, _, _⟩
        refine cont_map (L' := [pts b1 (.cells [v].toArray 24), row 9 1 (.slice (some ⟨bt, 0, none⟩) (tk.length + 1) (tk.length + 1)) ((topicsS twoS).map fun s => [.string s]), P, row 25 1 (.slice none 0 0) [], row 25 1 (.slice p 2 c) [[.int .u64 0], [.int .u64 0]], pts b4 (.cells [.int .u64 0, .slice none 0 0].toArray 28)] ++ R) entD ?_
        exact n1_3_13 ⟨p, c, pv, cv, pc, cc, vo, vs, b4⟩ _ _ ⟨⟨rfl, rfl, rfl, rfl, rfl, trivial⟩, rfl⟩
      · dsimp only [List.length_cons, List.length_nil]
        repeat' (first | (refine go_Y ?_; intros) | fail)
        refine clN_Y (num20_spec 2) ?_
        intro _ _
        repeat' (first | (refine go_Y ?_; intros) | fail)
        refine cont_map (L' := [pts b1 (.cells [v].toArray 24), row 9 1 (.slice (some ⟨bt, 0, none⟩) (tk.length + 1) (tk.length + 1)) ((topicsS twoS).map fun s => [.string s]), P, row 25 1 (.slice none 0 0) [], pts b4 (.cells [.int .u64 0, .slice none 0 0].toArray 28)] ++ R) entD ?_
        exact n3_4_13 ⟨pq, cq, pv, cv, pc, cc, vo, vs, b4⟩ _ _ ⟨⟨rfl, rfl, rfl, rfl, rfl, trivial⟩, rfl⟩
    intro n3_13
    refine node_have 7 [0, 2, 3, 4, 5, 6, 7, 8, 9, 10, 11, 12, 13, 14, 15, 16] (γ := Option Addr × Nat × Option Addr × Nat × Option Addr × Nat × V1s × V1s × Nat) (fun ⟨pq, cq, pv, cv, pc, cc, vo, vs, b4⟩ ρ L => Knows ρ [(1, .pointer (some ⟨b1, 0, none⟩)), (2, .slice (some ⟨bt, 0, none⟩) (tk.length + 1) (tk.length + 1)), (17, .slice pq 2 cq)] ∧ L = [pts b1 (.cells [v].toArray 24), row 9 1 (.slice (some ⟨bt, 0, none⟩) (tk.length + 1) (tk.length + 1)) ((topicsS twoS).map fun s => [.string s]), P, row 25 1 (.slice none 0 0) [], row 25 1 (.slice pq 2 cq) [[.int .u64 0], [.int .u64 0]]] ++ R) ?_ ?_
    · rintro ⟨pq, cq, pv, cv, pc, cc, vo, vs, b4⟩ ρ L ⟨hk, rfl⟩
      refine cont_regs hk ?_
      refine cont_node [] [(3, [3], [0, 2, 4, 5, 6, 7, 8, 9, 10, 11, 12, 13, 14, 15, 16]), (13, [13], [0, 2, 3, 4, 5, 6, 7, 8, 9, 10, 11, 12, 14, 15, 16])] rfl (by decide +kernel) ?_
      refine nodeE2 ?_ ?_
      · dsimp only [List.length_cons, List.length_nil]
        repeat' (first | (refine go_Y ?_; intros) | fail)
        refine clN_Y (num20_spec 1) ?_
        intro _ _
        repeat' (first | (refine go_Y ?_; intros) | fail)
        refine cont_map (L' := [pts b1 (.cells [v].toArray 24), row 9 1 (.slice (some ⟨bt, 0, none⟩) (tk.length + 1) (tk.length + 1)) ((topicsS twoS).map fun s => [.string s]), P, row 25 1 (.slice none 0 0) [], row 25 1 (.slice pq 2 cq) [[.int .u64 0], [.int .u64 0]]] ++ R) entD ?_
        exact n1_3 ⟨pq, cq, pv, cv, pc, cc, vo, vs, b4⟩ _ _ ⟨⟨rfl, rfl, rfl, rfl, trivial⟩, rfl⟩
      · dsimp only [List.length_cons, List.length_nil]
        repeat' (first | (refine go_Y ?_; intros) | fail)
        rename_i w
        refine cont_map (L' := [pts b1 (.cells [v].toArray 24), row 9 1 (.slice (some ⟨bt, 0, none⟩) (tk.length + 1) (tk.length + 1)) ((topicsS twoS).map fun s => [.string s]), P, row 25 1 (.slice none 0 0) [], row 25 1 (.slice pq 2 cq) [[.int .u64 0], [.int .u64 0]], pts w (.cells [.int .u64 0, .slice none 0 0].toArray 28)] ++ R) entD ?_
        exact n1_13 ⟨pq, cq, pv, cv, pc, cc, vo, vs, w⟩ _ _ ⟨⟨rfl, rfl, rfl, rfl, trivial⟩, rfl⟩
    intro n1
    refine node_have 7 [0, 1, 2, 4, 5, 6, 7, 8, 9, 10, 11, 12, 13, 14, 15, 16] (γ := Option Addr × Nat × Option Addr × Nat × Option Addr × Nat × V1s × V1s × Nat) (fun ⟨pq, cq, pv, cv, pc, cc, vo, vs, b4⟩ ρ L => Knows ρ [(1, .pointer (some ⟨b1, 0, none⟩)), (2, .slice (some ⟨bt, 0, none⟩) (tk.length + 1) (tk.length + 1)), (19, .agg (valV (nV 1)).toArray)] ∧ L = [pts b1 (.cells [v].toArray 24), row 9 1 (.slice (some ⟨bt, 0, none⟩) (tk.length + 1) (tk.length + 1)) ((topicsS twoS).map fun s => [.string s]), P, row 25 1 (.slice none 0 0) []] ++ R) ?_ ?_
    · rintro ⟨pq, cq, pv, cv, pc, cc, vo, vs, b4⟩ ρ L ⟨hk, rfl⟩
      refine cont_regs hk ?_
      refine cont_node [] [(1, [1], [0, 2, 4, 5, 6, 7, 8, 9, 10, 11, 12, 13, 14, 15, 16]), (4, [4], [0, 1, 2, 5, 6, 7, 8, 9, 10, 11, 12, 13, 14, 15, 16]), (13, [13], [0, 1, 2, 4, 5, 6, 7, 8, 9, 10, 11, 12, 14, 15, 16])] rfl (by decide +kernel) ?_
      refine nodeE3 ?_ ?_ ?_
      · dsimp only [List.length_cons, List.length_nil]
        repeat' (first | (refine go_Y ?_; intros) | fail)
        rename_i w hw
        refine cont_learn (rowShapeS (e := 25) (n := 1) (v := w) (xs := [[.int .u64 0], [.int .u64 0]]) (by decide) takeD) ?_
        rintro ⟨p, c, rfl, _, _⟩
        refine cont_map (L' := [pts b1 (.cells [v].toArray 24), row 9 1 (.slice (some ⟨bt, 0, none⟩) (tk.length + 1) (tk.length + 1)) ((topicsS twoS).map fun s => [.string s]), P, row 25 1 (.slice none 0 0) [], row 25 1 (.slice p 2 c) [[.int .u64 0], [.int .u64 0]]] ++ R) entD ?_
        exact n1_3 ⟨p, c, pv, cv, pc, cc, vo, vs, b4⟩ _ _ ⟨⟨rfl, rfl, rfl, rfl, trivial⟩, rfl⟩
      · dsimp only [List.length_cons, List.length_nil]
        repeat' (first | (refine go_Y ?_; intros) | fail)
        refine clN_Y (num20_spec 2) ?_
        intro _ _
        repeat' (first | (refine go_Y ?_; intros) | fail)
        refine cont_map (L' := [pts b1 (.cells [v].toArray 24), row 9 1 (.slice (some ⟨bt, 0, none⟩) (tk.length + 1) (tk.length + 1)) ((topicsS twoS).map fun s => [.string s]), P, row 25 1 (.slice none 0 0) []] ++ R) entD ?_
        exact n3_4 ⟨pq, cq, pv, cv, pc, cc, vo, vs, b4⟩ _ _ ⟨⟨rfl, rfl, rfl, rfl, trivial⟩, rfl⟩
      · dsimp only [List.length_cons, List.length_nil]
        repeat' (first | (refine go_Y ?_; intros) | fail)
        rename_i w
        refine cont_map (L' := [pts b1 (.cells [v].toArray 24), row 9 1 (.slice (some ⟨bt, 0, none⟩) (tk.length + 1) (tk.length + 1)) ((topicsS twoS).map fun s => [.string s]), P, row 25 1 (.slice none 0 0) [], pts w (.cells [.int .u64 0, .slice none 0 0].toArray 28)] ++ R) entD ?_
        exact n3_13 ⟨pq, cq, pv, cv, pc, cc, vo, vs, w⟩ _ _ ⟨⟨rfl, rfl, rfl, rfl, trivial⟩, rfl⟩
    intro n3
    refine node_have 7 [0, 1, 2, 3, 4, 5, 6, 7, 8, 9, 10, 11, 12, 14, 15, 16] (γ := Option Addr × Nat × Option Addr × Nat × Option Addr × Nat × V1s × V1s × Nat) (fun ⟨pq, cq, pv, cv, pc, cc, vo, vs, b4⟩ ρ L => Knows ρ [(1, .pointer (some ⟨b1, 0, none⟩)), (2, .slice (some ⟨bt, 0, none⟩) (tk.length + 1) (tk.length + 1)), (4, .pointer (some ⟨b4, 0, none⟩))] ∧ L = [pts b1 (.cells [v].toArray 24), row 9 1 (.slice (some ⟨bt, 0, none⟩) (tk.length + 1) (tk.length + 1)) ((topicsS twoS).map fun s => [.string s]), P, row 25 1 (.slice none 0 0) [], pts b4 (.cells [.int .u64 0, .slice none 0 0].toArray 28)] ++ R) ?_ ?_
    · rintro ⟨pq, cq, pv, cv, pc, cc, vo, vs, b4⟩ ρ L ⟨hk, rfl⟩
      refine cont_regs hk ?_
      refine cont_node [] [(1, [1], [0, 2, 3, 4, 5, 6, 7, 8, 9, 10, 11, 12, 14, 15, 16]), (3, [3], [0, 1, 2, 4, 5, 6, 7, 8, 9, 10, 11, 12, 14, 15, 16])] rfl (by decide +kernel) ?_
      refine nodeE2 ?_ ?_
      · dsimp only [List.length_cons, List.length_nil]
        repeat' (first | (refine go_Y ?_; intros) | fail)
        rename_i w hw
        refine cont_learn (rowShapeS (e := 25) (n := 1) (v := w) (xs := [[.int .u64 0], [.int .u64 0]]) (by decide) takeD) ?_
        rintro ⟨p, c, rfl, _, _⟩
        refine cont_map (L' := [pts b1 (.cells [v].toArray 24), row 9 1 (.slice (some ⟨bt, 0, none⟩) (tk.length + 1) (tk.length + 1)) ((topicsS twoS).map fun s => [.string s]), P, row 25 1 (.slice none 0 0) [], row 25 1 (.slice p 2 c) [[.int .u64 0], [.int .u64 0]], pts b4 (.cells [.int .u64 0, .slice none 0 0].toArray 28)] ++ R) entD ?_
        exact n1_13 ⟨p, c, pv, cv, pc, cc, vo, vs, b4⟩ _ _ ⟨⟨rfl, rfl, rfl, rfl, trivial⟩, rfl⟩
      · dsimp only [List.length_cons, List.length_nil]
        repeat' (first | (refine go_Y ?_; intros) | fail)
        refine clN_Y (num20_spec 1) ?_
        intro _ _
        repeat' (first | (refine go_Y ?_; intros) | fail)
        refine cont_map (L' := [pts b1 (.cells [v].toArray 24), row 9 1 (.slice (some ⟨bt, 0, none⟩) (tk.length + 1) (tk.length + 1)) ((topicsS twoS).map fun s => [.string s]), P, row 25 1 (.slice none 0 0) [], pts b4 (.cells [.int .u64 0, .slice none 0 0].toArray 28)] ++ R) entD ?_
        exact n3_13 ⟨pq, cq, pv, cv, pc, cc, vo, vs, b4⟩ _ _ ⟨⟨rfl, rfl, rfl, rfl, trivial⟩, rfl⟩
    intro n13
    refine cont_node [] [(1, [1], [0, 2, 3, 4, 5, 6, 7, 8, 9, 10, 11, 12, 13, 14, 15, 16]), (3, [3], [0, 1, 2, 4, 5, 6, 7, 8, 9, 10, 11, 12, 13, 14, 15, 16]), (13, [13], [0, 1, 2, 3, 4, 5, 6, 7, 8, 9, 10, 11, 12, 14, 15, 16])] rfl (by decide +kernel) ?_
    refine nodeE3 ?_ ?_ ?_
    · dsimp only [List.length_cons, List.length_nil]
      repeat' (first | (refine go_Y ?_; intros) | fail)
      rename_i w hw
      refine cont_learn (rowShapeS (e := 25) (n := 1) (v := w) (xs := [[.int .u64 0], [.int .u64 0]]) (by decide) takeD) ?_
      rintro ⟨p, c, rfl, _, _⟩
      refine cont_map (L' := [pts b1 (.cells [v].toArray 24), row 9 1 (.slice (some ⟨bt, 0, none⟩) (tk.length + 1) (tk.length + 1)) ((topicsS twoS).map fun s => [.string s]), P, row 25 1 (.slice none 0 0) [], row 25 1 (.slice p 2 c) [[.int .u64 0], [.int .u64 0]]] ++ R) entD ?_
      exact n1 ⟨p, c, none, 0, none, 0, d0, d0, 0⟩ _ _ ⟨⟨rfl, rfl, rfl, trivial⟩, rfl⟩
    · dsimp only [List.length_cons, List.length_nil]
      repeat' (first | (refine go_Y ?_; intros) | fail)
      refine clN_Y (num20_spec 1) ?_
      intro _ _
      repeat' (first | (refine go_Y ?_; intros) | fail)
      refine cont_map (L' := [pts b1 (.cells [v].toArray 24), row 9 1 (.slice (some ⟨bt, 0, none⟩) (tk.length + 1) (tk.length + 1)) ((topicsS twoS).map fun s => [.string s]), P, row 25 1 (.slice none 0 0) []] ++ R) entD ?_
      exact n3 ⟨none, 0, none, 0, none, 0, d0, d0, 0⟩ _ _ ⟨⟨rfl, rfl, rfl, trivial⟩, rfl⟩
    · dsimp only [List.length_cons, List.length_nil]
      repeat' (first | (refine go_Y ?_; intros) | fail)
      rename_i w
      refine cont_map (L' := [pts b1 (.cells [v].toArray 24), row 9 1 (.slice (some ⟨bt, 0, none⟩) (tk.length + 1) (tk.length + 1)) ((topicsS twoS).map fun s => [.string s]), P, row 25 1 (.slice none 0 0) [], pts w (.cells [.int .u64 0, .slice none 0 0].toArray 28)] ++ R) entD ?_
      exact n13 ⟨none, 0, none, 0, none, 0, d0, d0, w⟩ _ _ ⟨⟨rfl, rfl, rfl, trivial⟩, rfl⟩
  rintro ⟨⟨vo, hvo⟩, ⟨vs, hvs⟩, b4⟩ ρ L ⟨hk, rfl⟩
  dsimp only at hk ⊢
  refine cont_regs hk ?_
  have htk : tk.length = 2 := by
    have := congrArg List.length hmc
    rw [List.length_map] at this
    exact this
  refine cont_learn (rowShape (e := 57) (n := 3) (v := vo) (xs := avOuts) (by decide) takeD) ?_
  rintro (⟨rfl, hn⟩ | ⟨bo, co, he, _⟩)
  · cases hn
  replace he : vo = .slice (some ⟨bo, 0, none⟩) 3 co := he
  subst he
  refine cont_learn (rowShape (e := 25) (n := 1) (v := vs) (xs := [[.int .u64 0], [.int .u64 1]]) (by decide) takeD) ?_
  rintro (⟨rfl, hn⟩ | ⟨bs, cs, he, _⟩)
  · cases hn
  replace he : vs = .slice (some ⟨bs, 0, none⟩) 2 cs := he
  subst he
  rw [htk, show ((topicsS twoS).map fun s => [Value.string s]) = avTops from by rw [av_topics]; rfl]
  have f3 : (!decide (((3 : Nat) : Int) = (3 : Int))) = false := by decide
  have f4 : ((⟨#[116, 45, 98]⟩ : ByteArray).toList == (⟨#[116, 45, 98]⟩ : ByteArray).toList) = true := by simp
  have f5 : ((⟨#[109, 97, 114, 107, 115]⟩ : ByteArray).toList == (⟨#[109, 97, 114, 107, 115]⟩ : ByteArray).toList) = true := by simp
  have f6 : decide (((2 : Nat) : Int) = (2 : Int)) = true := by decide
  have i2 : (2 : Nat) < 3 := by decide
  have i1 : (1 : Nat) < 3 := by decide
  have i0 : (0 : Nat) < 3 := by decide
  have i3 : (1 : Nat) < 2 := by decide
  have hx2 : avOuts[2]? = some [.string ⟨#[109, 97, 114, 107, 115]⟩, .int .u64 2, .string (putMB 2 5 [0, 1] [0, 1])] := rfl
  repeat' (first | (refine go_Y ?_; intros) | (refine gs_Y ?_ ?_ <;> (intro hgd; try (simp only [Bool.not_true, Bool.not_false] at hgd))) | (refine gc_Y ?_ ?_ <;> intro _) | fail)
  refine ok_map (L' := [pts b1 (.cells [v].toArray 24), row 9 1 (.slice (some ⟨bt, 0, none⟩) 3 3) avTops, P, row 25 1 (.slice none 0 0) [], row 57 3 (.slice (some ⟨bo, 0, none⟩) 3 co) avOuts, row 25 1 (.slice (some ⟨bs, 0, none⟩) 2 cs) [[.int .u64 0], [.int .u64 1]], pts b4 (.cells [.int .u64 2, .slice (some ⟨bs, 0, none⟩) 2 cs].toArray 28)] ++ R) entD ?_
  refine ok_meetE (γ := Option Addr × Nat × Nat × Nat × Option Addr × Nat × Option Addr × Nat) (fun g ρ L => Knows ρ [(1, .pointer (some ⟨b1, 0, none⟩)), (2, .slice (some ⟨bt, 0, none⟩) 3 3), (3, .slice (some ⟨bo, 0, none⟩) 3 co), (4, .pointer (some ⟨b4, 0, none⟩)), (5, .int .i64 0), (6, .pointer (some ⟨g.2.2.1, 0, none⟩)), (7, .pointer (some ⟨g.2.2.2.1, 0, none⟩)), (8, .int .i64 0)] ∧
      L = [pts b1 (.cells [v].toArray 24), row 9 1 (.slice (some ⟨bt, 0, none⟩) 3 3) avTops, P, row 25 1 (.slice none 0 0) [], row 57 3 (.slice (some ⟨bo, 0, none⟩) 3 co) avOuts, row 25 1 (.slice (some ⟨bs, 0, none⟩) 2 cs) [[.int .u64 0], [.int .u64 1]], pts b4 (.cells [.int .u64 2, .slice (some ⟨bs, 0, none⟩) 2 cs].toArray 28), row 25 1 (.slice g.1 2 g.2.1) [[.int .u64 0], [.int .u64 1]], pts g.2.2.1 (.cells [.int .u64 2, .slice g.1 2 g.2.1].toArray 28), pts g.2.2.2.1 (.cells [.int .u8 2, .int .u64 5, .slice g.2.2.2.2.1 2 g.2.2.2.2.2.1, .slice g.2.2.2.2.2.2.1 2 g.2.2.2.2.2.2.2].toArray 59)] ++ R) ?_ ?_
  · refine ok_draw_node (cv := []) 5 [5, 10, 11, 12, 13] [pts b1 (.cells [v].toArray 24), row 57 3 (.slice (some ⟨bo, 0, none⟩) 3 co) avOuts] (by kernel_rfl) rfl (by decide +kernel) (by decide +kernel) (by decide +kernel) (takePre takeD) _ rfl ?_
    refine node_have 0 [9, 14] (γ := Option Addr × Nat × Nat × Nat × Option Addr × Nat × Option Addr × Nat) (fun ⟨pp, cp, b6, b7, pk, ck, pm, cm⟩ ρ L => Knows ρ [(1, .pointer (some ⟨b1, 0, none⟩)), (2, .slice (some ⟨bt, 0, none⟩) 3 3), (3, .slice (some ⟨bo, 0, none⟩) 3 co), (4, .pointer (some ⟨b4, 0, none⟩)), (5, .int .i64 0), (40, .tuple #[.agg #[.int .u64 2, .slice pp 2 cp], .agg #[.int .u8 2, .int .u64 5, .slice pk 2 ck, .slice pm 2 cm], .int .i64 0]), (6, .pointer (some ⟨b6, 0, none⟩)), (7, .pointer (some ⟨b7, 0, none⟩))] ∧ L = [pts b1 (.cells [v].toArray 24), row 9 1 (.slice (some ⟨bt, 0, none⟩) 3 3) avTops, P, row 25 1 (.slice none 0 0) [], row 57 3 (.slice (some ⟨bo, 0, none⟩) 3 co) avOuts, row 25 1 (.slice (some ⟨bs, 0, none⟩) 2 cs) [[.int .u64 0], [.int .u64 1]], pts b4 (.cells [.int .u64 2, .slice (some ⟨bs, 0, none⟩) 2 cs].toArray 28), row 25 1 (.slice pp 2 cp) [[.int .u64 0], [.int .u64 1]], row 3 1 (.slice pk 2 ck) [[.int .i64 0], [.int .i64 1]], row 25 1 (.slice pm 2 cm) [[.int .u64 0], [.int .u64 1]], pts b6 (.cells [.int .u64 2, .slice pp 2 cp].toArray 28), pts b7 (.cells [.int .u8 2, .int .u64 5, .slice pk 2 ck, .slice pm 2 cm].toArray 59)] ++ R) ?_ ?_
    · rintro ⟨pp, cp, b6, b7, pk, ck, pm, cm⟩ ρ L ⟨hk, rfl⟩
      refine cont_regs hk ?_
      refine cont_node0 (by decide +kernel) ?_
      repeat' (first | (refine go_Y ?_; intros) | fail)
      refine cont_map (L' := [pts b1 (.cells [v].toArray 24), row 9 1 (.slice (some ⟨bt, 0, none⟩) 3 3) avTops, P, row 25 1 (.slice none 0 0) [], row 57 3 (.slice (some ⟨bo, 0, none⟩) 3 co) avOuts, row 25 1 (.slice (some ⟨bs, 0, none⟩) 2 cs) [[.int .u64 0], [.int .u64 1]], pts b4 (.cells [.int .u64 2, .slice (some ⟨bs, 0, none⟩) 2 cs].toArray 28), row 25 1 (.slice pp 2 cp) [[.int .u64 0], [.int .u64 1]], pts b6 (.cells [.int .u64 2, .slice pp 2 cp].toArray 28), pts b7 (.cells [.int .u8 2, .int .u64 5, .slice pk 2 ck, .slice pm 2 cm].toArray 59)] ++ R) entD ?_
      exact cont_meet (pp, cp, b6, b7, pk, ck, pm, cm) ⟨⟨rfl, rfl, rfl, rfl, rfl, rfl, rfl, rfl, trivial⟩, rfl⟩
    intro n5_10_11_12_13
    refine node_have 1 [8, 9, 13, 14] (γ := Option Addr × Nat × Nat × Nat × Option Addr × Nat × Option Addr × Nat) (fun ⟨pp, cp, b6, b7, pk, ck, pm, cm⟩ ρ L => Knows ρ [(1, .pointer (some ⟨b1, 0, none⟩)), (2, .slice (some ⟨bt, 0, none⟩) 3 3), (3, .slice (some ⟨bo, 0, none⟩) 3 co), (4, .pointer (some ⟨b4, 0, none⟩)), (5, .int .i64 0), (40, .tuple #[.agg #[.int .u64 2, .slice pp 2 cp], .agg #[.int .u8 2, .int .u64 5, .slice pk 2 ck, .slice pm 2 cm], .int .i64 0]), (6, .pointer (some ⟨b6, 0, none⟩)), (7, .pointer (some ⟨b7, 0, none⟩))] ∧ L = [pts b1 (.cells [v].toArray 24), row 9 1 (.slice (some ⟨bt, 0, none⟩) 3 3) avTops, P, row 25 1 (.slice none 0 0) [], row 57 3 (.slice (some ⟨bo, 0, none⟩) 3 co) avOuts, row 25 1 (.slice (some ⟨bs, 0, none⟩) 2 cs) [[.int .u64 0], [.int .u64 1]], pts b4 (.cells [.int .u64 2, .slice (some ⟨bs, 0, none⟩) 2 cs].toArray 28), row 25 1 (.slice pp 2 cp) [[.int .u64 0], [.int .u64 1]], row 3 1 (.slice pk 2 ck) [[.int .i64 0], [.int .i64 1]], row 25 1 (.slice pm 2 cm) [[.int .u64 0], [.int .u64 1]], pts b6 (.cells [.int .u64 2, .slice pp 2 cp].toArray 28), pts b7 (.cells [.int .u8 0, .int .u64 0, .slice none 0 0, .slice none 0 0].toArray 59)] ++ R) ?_ ?_
    · rintro ⟨pp, cp, b6, b7, pk, ck, pm, cm⟩ ρ L ⟨hk, rfl⟩
      refine cont_regs hk ?_
      refine cont_node [] [(13, [8, 13], [9, 14])] rfl (by decide +kernel) ?_
      refine nodeE1 ?_
      · dsimp only [List.length_cons, List.length_nil]
        repeat' (first | (refine go_Y ?_; intros) | fail)
        refine cont_map (L' := [pts b1 (.cells [v].toArray 24), row 9 1 (.slice (some ⟨bt, 0, none⟩) 3 3) avTops, P, row 25 1 (.slice none 0 0) [], row 57 3 (.slice (some ⟨bo, 0, none⟩) 3 co) avOuts, row 25 1 (.slice (some ⟨bs, 0, none⟩) 2 cs) [[.int .u64 0], [.int .u64 1]], pts b4 (.cells [.int .u64 2, .slice (some ⟨bs, 0, none⟩) 2 cs].toArray 28), row 25 1 (.slice pp 2 cp) [[.int .u64 0], [.int .u64 1]], row 3 1 (.slice pk 2 ck) [[.int .i64 0], [.int .i64 1]], row 25 1 (.slice pm 2 cm) [[.int .u64 0], [.int .u64 1]], pts b6 (.cells [.int .u64 2, .slice pp 2 cp].toArray 28), pts b7 (.cells [.int .u8 2, .int .u64 5, .slice pk 2 ck, .slice pm 2 cm].toArray 59)] ++ R) entD ?_
        exact n5_10_11_12_13 ⟨pp, cp, b6, b7, pk, ck, pm, cm⟩ _ _ ⟨⟨rfl, rfl, rfl, rfl, rfl, rfl, rfl, rfl, trivial⟩, rfl⟩
    intro n5_10_11_12
    refine node_have 2 [6, 7, 8, 9, 12, 13, 14] (γ := Option Addr × Nat × Nat × Nat × Option Addr × Nat × Option Addr × Nat) (fun ⟨pp, cp, b6, b7, pk, ck, pm, cm⟩ ρ L => Knows ρ [(1, .pointer (some ⟨b1, 0, none⟩)), (2, .slice (some ⟨bt, 0, none⟩) 3 3), (3, .slice (some ⟨bo, 0, none⟩) 3 co), (4, .pointer (some ⟨b4, 0, none⟩)), (5, .int .i64 0), (46, .tuple #[.agg #[.int .u64 2, .slice pp 2 cp], .agg #[.int .u8 2, .int .u64 5, .slice pk 2 ck, .slice pm 2 cm], .int .i64 0]), (6, .pointer (some ⟨b6, 0, none⟩)), (7, .pointer (some ⟨b7, 0, none⟩))] ∧ L = [pts b1 (.cells [v].toArray 24), row 9 1 (.slice (some ⟨bt, 0, none⟩) 3 3) avTops, P, row 25 1 (.slice none 0 0) [], row 57 3 (.slice (some ⟨bo, 0, none⟩) 3 co) avOuts, row 25 1 (.slice (some ⟨bs, 0, none⟩) 2 cs) [[.int .u64 0], [.int .u64 1]], pts b4 (.cells [.int .u64 2, .slice (some ⟨bs, 0, none⟩) 2 cs].toArray 28), row 25 1 (.slice pp 2 cp) [[.int .u64 0], [.int .u64 1]], row 3 1 (.slice pk 2 ck) [[.int .i64 0], [.int .i64 1]], row 25 1 (.slice pm 2 cm) [[.int .u64 0], [.int .u64 1]], pts b6 (.cells [.int .u64 0, .slice none 0 0].toArray 28), pts b7 (.cells [.int .u8 0, .int .u64 0, .slice none 0 0, .slice none 0 0].toArray 59)] ++ R) ?_ ?_
    · rintro ⟨pp, cp, b6, b7, pk, ck, pm, cm⟩ ρ L ⟨hk, rfl⟩
      refine cont_regs hk ?_
      refine cont_node [] [(12, [6, 7, 12], [8, 9, 13, 14])] rfl (by decide +kernel) ?_
      refine nodeE1 ?_
      · dsimp only [List.length_cons, List.length_nil]
        repeat' (first | (refine go_Y ?_; intros) | fail)
        refine cont_map (L' := [pts b1 (.cells [v].toArray 24), row 9 1 (.slice (some ⟨bt, 0, none⟩) 3 3) avTops, P, row 25 1 (.slice none 0 0) [], row 57 3 (.slice (some ⟨bo, 0, none⟩) 3 co) avOuts, row 25 1 (.slice (some ⟨bs, 0, none⟩) 2 cs) [[.int .u64 0], [.int .u64 1]], pts b4 (.cells [.int .u64 2, .slice (some ⟨bs, 0, none⟩) 2 cs].toArray 28), row 25 1 (.slice pp 2 cp) [[.int .u64 0], [.int .u64 1]], row 3 1 (.slice pk 2 ck) [[.int .i64 0], [.int .i64 1]], row 25 1 (.slice pm 2 cm) [[.int .u64 0], [.int .u64 1]], pts b6 (.cells [.int .u64 2, .slice pp 2 cp].toArray 28), pts b7 (.cells [.int .u8 0, .int .u64 0, .slice none 0 0, .slice none 0 0].toArray 59)] ++ R) entD ?_
        exact n5_10_11_12 ⟨pp, cp, b6, b7, pk, ck, pm, cm⟩ _ _ ⟨⟨rfl, rfl, rfl, rfl, rfl, rfl, rfl, rfl, trivial⟩, rfl⟩
    intro n5_10_11
    refine node_have 3 [6, 7, 8, 9, 11, 12, 13, 14] (γ := Option Addr × Nat × Nat × Nat × Option Addr × Nat × Option Addr × Nat) (fun ⟨pp, cp, b6, b7, pk, ck, pm, cm⟩ ρ L => Knows ρ [(1, .pointer (some ⟨b1, 0, none⟩)), (2, .slice (some ⟨bt, 0, none⟩) 3 3), (3, .slice (some ⟨bo, 0, none⟩) 3 co), (4, .pointer (some ⟨b4, 0, none⟩)), (5, .int .i64 0), (46, .tuple #[.agg #[.int .u64 2, .slice pp 2 cp], .agg #[.int .u8 2, .int .u64 5, .slice pk 2 ck, .slice pm 2 cm], .int .i64 0]), (6, .pointer (some ⟨b6, 0, none⟩))] ∧ L = [pts b1 (.cells [v].toArray 24), row 9 1 (.slice (some ⟨bt, 0, none⟩) 3 3) avTops, P, row 25 1 (.slice none 0 0) [], row 57 3 (.slice (some ⟨bo, 0, none⟩) 3 co) avOuts, row 25 1 (.slice (some ⟨bs, 0, none⟩) 2 cs) [[.int .u64 0], [.int .u64 1]], pts b4 (.cells [.int .u64 2, .slice (some ⟨bs, 0, none⟩) 2 cs].toArray 28), row 25 1 (.slice pp 2 cp) [[.int .u64 0], [.int .u64 1]], row 3 1 (.slice pk 2 ck) [[.int .i64 0], [.int .i64 1]], row 25 1 (.slice pm 2 cm) [[.int .u64 0], [.int .u64 1]], pts b6 (.cells [.int .u64 0, .slice none 0 0].toArray 28)] ++ R) ?_ ?_
    · rintro ⟨pp, cp, b6, b7, pk, ck, pm, cm⟩ ρ L ⟨hk, rfl⟩
      refine cont_regs hk ?_
      refine cont_node [] [(11, [11], [6, 7, 8, 9, 12, 13, 14])] rfl (by decide +kernel) ?_
      refine nodeE1 ?_
      · dsimp only [List.length_cons, List.length_nil]
        repeat' (first | (refine go_Y ?_; intros) | fail)
        rename_i w
        refine cont_map (L' := [pts b1 (.cells [v].toArray 24), row 9 1 (.slice (some ⟨bt, 0, none⟩) 3 3) avTops, P, row 25 1 (.slice none 0 0) [], row 57 3 (.slice (some ⟨bo, 0, none⟩) 3 co) avOuts, row 25 1 (.slice (some ⟨bs, 0, none⟩) 2 cs) [[.int .u64 0], [.int .u64 1]], pts b4 (.cells [.int .u64 2, .slice (some ⟨bs, 0, none⟩) 2 cs].toArray 28), row 25 1 (.slice pp 2 cp) [[.int .u64 0], [.int .u64 1]], row 3 1 (.slice pk 2 ck) [[.int .i64 0], [.int .i64 1]], row 25 1 (.slice pm 2 cm) [[.int .u64 0], [.int .u64 1]], pts b6 (.cells [.int .u64 0, .slice none 0 0].toArray 28), pts w (.cells [.int .u8 0, .int .u64 0, .slice none 0 0, .slice none 0 0].toArray 59)] ++ R) entD ?_
        exact n5_10_11 ⟨pp, cp, b6, w, pk, ck, pm, cm⟩ _ _ ⟨⟨rfl, rfl, rfl, rfl, rfl, rfl, rfl, rfl, trivial⟩, rfl⟩
    intro n5_10
    refine node_have 3 [6, 7, 8, 9, 10, 12, 13, 14] (γ := Option Addr × Nat × Nat × Nat × Option Addr × Nat × Option Addr × Nat) (fun ⟨pp, cp, b6, b7, pk, ck, pm, cm⟩ ρ L => Knows ρ [(1, .pointer (some ⟨b1, 0, none⟩)), (2, .slice (some ⟨bt, 0, none⟩) 3 3), (3, .slice (some ⟨bo, 0, none⟩) 3 co), (4, .pointer (some ⟨b4, 0, none⟩)), (5, .int .i64 0), (46, .tuple #[.agg #[.int .u64 2, .slice pp 2 cp], .agg #[.int .u8 2, .int .u64 5, .slice pk 2 ck, .slice pm 2 cm], .int .i64 0]), (7, .pointer (some ⟨b7, 0, none⟩))] ∧ L = [pts b1 (.cells [v].toArray 24), row 9 1 (.slice (some ⟨bt, 0, none⟩) 3 3) avTops, P, row 25 1 (.slice none 0 0) [], row 57 3 (.slice (some ⟨bo, 0, none⟩) 3 co) avOuts, row 25 1 (.slice (some ⟨bs, 0, none⟩) 2 cs) [[.int .u64 0], [.int .u64 1]], pts b4 (.cells [.int .u64 2, .slice (some ⟨bs, 0, none⟩) 2 cs].toArray 28), row 25 1 (.slice pp 2 cp) [[.int .u64 0], [.int .u64 1]], row 3 1 (.slice pk 2 ck) [[.int .i64 0], [.int .i64 1]], row 25 1 (.slice pm 2 cm) [[.int .u64 0], [.int .u64 1]], pts b7 (.cells [.int .u8 0, .int .u64 0, .slice none 0 0, .slice none 0 0].toArray 59)] ++ R) ?_ ?_
    · rintro ⟨pp, cp, b6, b7, pk, ck, pm, cm⟩ ρ L ⟨hk, rfl⟩
      refine cont_regs hk ?_
      refine cont_node [] [(10, [10], [6, 7, 8, 9, 12, 13, 14])] rfl (by decide +kernel) ?_
      refine nodeE1 ?_
      · dsimp only [List.length_cons, List.length_nil]
        repeat' (first | (refine go_Y ?_; intros) | fail)
        rename_i w
        refine cont_map (L' := [pts b1 (.cells [v].toArray 24), row 9 1 (.slice (some ⟨bt, 0, none⟩) 3 3) avTops, P, row 25 1 (.slice none 0 0) [], row 57 3 (.slice (some ⟨bo, 0, none⟩) 3 co) avOuts, row 25 1 (.slice (some ⟨bs, 0, none⟩) 2 cs) [[.int .u64 0], [.int .u64 1]], pts b4 (.cells [.int .u64 2, .slice (some ⟨bs, 0, none⟩) 2 cs].toArray 28), row 25 1 (.slice pp 2 cp) [[.int .u64 0], [.int .u64 1]], row 3 1 (.slice pk 2 ck) [[.int .i64 0], [.int .i64 1]], row 25 1 (.slice pm 2 cm) [[.int .u64 0], [.int .u64 1]], pts w (.cells [.int .u64 0, .slice none 0 0].toArray 28), pts b7 (.cells [.int .u8 0, .int .u64 0, .slice none 0 0, .slice none 0 0].toArray 59)] ++ R) entD ?_
        exact n5_10_11 ⟨pp, cp, w, b7, pk, ck, pm, cm⟩ _ _ ⟨⟨rfl, rfl, rfl, rfl, rfl, rfl, rfl, rfl, trivial⟩, rfl⟩
    intro n5_11
    refine node_have 3 [0, 1, 2, 3, 4, 5, 6, 7, 8, 9, 12, 13, 14] (γ := Option Addr × Nat × Nat × Nat × Option Addr × Nat × Option Addr × Nat) (fun ⟨pp, cp, b6, b7, pk, ck, pm, cm⟩ ρ L => Knows ρ [(1, .pointer (some ⟨b1, 0, none⟩)), (2, .slice (some ⟨bt, 0, none⟩) 3 3), (3, .slice (some ⟨bo, 0, none⟩) 3 co), (4, .pointer (some ⟨b4, 0, none⟩)), (5, .int .i64 0), (6, .pointer (some ⟨b6, 0, none⟩)), (7, .pointer (some ⟨b7, 0, none⟩))] ∧ L = [pts b1 (.cells [v].toArray 24), row 9 1 (.slice (some ⟨bt, 0, none⟩) 3 3) avTops, P, row 25 1 (.slice none 0 0) [], row 57 3 (.slice (some ⟨bo, 0, none⟩) 3 co) avOuts, row 25 1 (.slice (some ⟨bs, 0, none⟩) 2 cs) [[.int .u64 0], [.int .u64 1]], pts b4 (.cells [.int .u64 2, .slice (some ⟨bs, 0, none⟩) 2 cs].toArray 28), pts b6 (.cells [.int .u64 0, .slice none 0 0].toArray 28), pts b7 (.cells [.int .u8 0, .int .u64 0, .slice none 0 0, .slice none 0 0].toArray 59)] ++ R) ?_ ?_
    · rintro ⟨pp, cp, b6, b7, pk, ck, pm, cm⟩ ρ L ⟨hk, rfl⟩
      refine cont_regs hk ?_
      refine cont_node [] [(5, [0, 1, 2, 3, 4, 5], [6, 7, 8, 9, 12, 13, 14])] rfl (by decide +kernel) ?_
      refine nodeE1 ?_
      · dsimp only [List.length_cons, List.length_nil]
        repeat' (first | (refine go_Y ?_; intros) | fail)
        refine clN_Y (hat) ?_
        rintro ⟨⟨wp, hwp⟩, ⟨wc, hwc⟩, ⟨wm, hwm⟩⟩ _
        repeat' (first | (refine go_Y ?_; intros) | fail)
        dsimp only
        refine cont_learn (rowShapeS (e := 25) (n := 1) (v := wp) (xs := [[.int .u64 0], [.int .u64 1]]) (by decide) takeD) ?_
        rintro ⟨p1, c1, rfl, _, _⟩
        refine cont_learn (rowShapeS (e := 3) (n := 1) (v := wc) (xs := [[.int .i64 0], [.int .i64 1]]) (by decide) takeD) ?_
        rintro ⟨p2, c2, rfl, _, _⟩
        refine cont_learn (rowShapeS (e := 25) (n := 1) (v := wm) (xs := [[.int .u64 0], [.int .u64 1]]) (by decide) takeD) ?_
        rintro ⟨p3, c3, rfl, _, _⟩
        refine cont_map (L' := [pts b1 (.cells [v].toArray 24), row 9 1 (.slice (some ⟨bt, 0, none⟩) 3 3) avTops, P, row 25 1 (.slice none 0 0) [], row 57 3 (.slice (some ⟨bo, 0, none⟩) 3 co) avOuts, row 25 1 (.slice (some ⟨bs, 0, none⟩) 2 cs) [[.int .u64 0], [.int .u64 1]], pts b4 (.cells [.int .u64 2, .slice (some ⟨bs, 0, none⟩) 2 cs].toArray 28), row 25 1 (.slice p1 2 c1) [[.int .u64 0], [.int .u64 1]], row 3 1 (.slice p2 2 c2) [[.int .i64 0], [.int .i64 1]], row 25 1 (.slice p3 2 c3) [[.int .u64 0], [.int .u64 1]], pts b6 (.cells [.int .u64 0, .slice none 0 0].toArray 28), pts b7 (.cells [.int .u8 0, .int .u64 0, .slice none 0 0, .slice none 0 0].toArray 59)] ++ R) entD ?_
        exact n5_10_11 ⟨p1, c1, b6, b7, p2, c2, p3, c3⟩ _ _ ⟨⟨rfl, rfl, rfl, rfl, rfl, rfl, rfl, rfl, trivial⟩, rfl⟩
    intro n10_11
    refine node_have 4 [6, 7, 8, 9, 10, 11, 12, 13, 14] (γ := Option Addr × Nat × Nat × Nat × Option Addr × Nat × Option Addr × Nat) (fun ⟨pp, cp, b6, b7, pk, ck, pm, cm⟩ ρ L => Knows ρ [(1, .pointer (some ⟨b1, 0, none⟩)), (2, .slice (some ⟨bt, 0, none⟩) 3 3), (3, .slice (some ⟨bo, 0, none⟩) 3 co), (4, .pointer (some ⟨b4, 0, none⟩)), (5, .int .i64 0), (46, .tuple #[.agg #[.int .u64 2, .slice pp 2 cp], .agg #[.int .u8 2, .int .u64 5, .slice pk 2 ck, .slice pm 2 cm], .int .i64 0])] ∧ L = [pts b1 (.cells [v].toArray 24), row 9 1 (.slice (some ⟨bt, 0, none⟩) 3 3) avTops, P, row 25 1 (.slice none 0 0) [], row 57 3 (.slice (some ⟨bo, 0, none⟩) 3 co) avOuts, row 25 1 (.slice (some ⟨bs, 0, none⟩) 2 cs) [[.int .u64 0], [.int .u64 1]], pts b4 (.cells [.int .u64 2, .slice (some ⟨bs, 0, none⟩) 2 cs].toArray 28), row 25 1 (.slice pp 2 cp) [[.int .u64 0], [.int .u64 1]], row 3 1 (.slice pk 2 ck) [[.int .i64 0], [.int .i64 1]], row 25 1 (.slice pm 2 cm) [[.int .u64 0], [.int .u64 1]]] ++ R) ?_ ?_
    · rintro ⟨pp, cp, b6, b7, pk, ck, pm, cm⟩ ρ L ⟨hk, rfl⟩
      refine cont_regs hk ?_
      refine cont_node [] [(10, [10], [6, 7, 8, 9, 11, 12, 13, 14]), (11, [11], [6, 7, 8, 9, 10, 12, 13, 14])] rfl (by decide +kernel) ?_
      refine nodeE2 ?_ ?_
      · dsimp only [List.length_cons, List.length_nil]
        repeat' (first | (refine go_Y ?_; intros) | fail)
        rename_i w
        refine cont_map (L' := [pts b1 (.cells [v].toArray 24), row 9 1 (.slice (some ⟨bt, 0, none⟩) 3 3) avTops, P, row 25 1 (.slice none 0 0) [], row 57 3 (.slice (some ⟨bo, 0, none⟩) 3 co) avOuts, row 25 1 (.slice (some ⟨bs, 0, none⟩) 2 cs) [[.int .u64 0], [.int .u64 1]], pts b4 (.cells [.int .u64 2, .slice (some ⟨bs, 0, none⟩) 2 cs].toArray 28), row 25 1 (.slice pp 2 cp) [[.int .u64 0], [.int .u64 1]], row 3 1 (.slice pk 2 ck) [[.int .i64 0], [.int .i64 1]], row 25 1 (.slice pm 2 cm) [[.int .u64 0], [.int .u64 1]], pts w (.cells [.int .u64 0, .slice none 0 0].toArray 28)] ++ R) entD ?_
        exact n5_10 ⟨pp, cp, w, b7, pk, ck, pm, cm⟩ _ _ ⟨⟨rfl, rfl, rfl, rfl, rfl, rfl, rfl, trivial⟩, rfl⟩
      · dsimp only [List.length_cons, List.length_nil]
        repeat' (first | (refine go_Y ?_; intros) | fail)
        rename_i w
        refine cont_map (L' := [pts b1 (.cells [v].toArray 24), row 9 1 (.slice (some ⟨bt, 0, none⟩) 3 3) avTops, P, row 25 1 (.slice none 0 0) [], row 57 3 (.slice (some ⟨bo, 0, none⟩) 3 co) avOuts, row 25 1 (.slice (some ⟨bs, 0, none⟩) 2 cs) [[.int .u64 0], [.int .u64 1]], pts b4 (.cells [.int .u64 2, .slice (some ⟨bs, 0, none⟩) 2 cs].toArray 28), row 25 1 (.slice pp 2 cp) [[.int .u64 0], [.int .u64 1]], row 3 1 (.slice pk 2 ck) [[.int .i64 0], [.int .i64 1]], row 25 1 (.slice pm 2 cm) [[.int .u64 0], [.int .u64 1]], pts w (.cells [.int .u8 0, .int .u64 0, .slice none 0 0, .slice none 0 0].toArray 59)] ++ R) entD ?_
        exact n5_11 ⟨pp, cp, b6, w, pk, ck, pm, cm⟩ _ _ ⟨⟨rfl, rfl, rfl, rfl, rfl, rfl, rfl, trivial⟩, rfl⟩
    intro n5
    refine node_have 4 [0, 1, 2, 3, 4, 5, 6, 7, 8, 9, 11, 12, 13, 14] (γ := Option Addr × Nat × Nat × Nat × Option Addr × Nat × Option Addr × Nat) (fun ⟨pp, cp, b6, b7, pk, ck, pm, cm⟩ ρ L => Knows ρ [(1, .pointer (some ⟨b1, 0, none⟩)), (2, .slice (some ⟨bt, 0, none⟩) 3 3), (3, .slice (some ⟨bo, 0, none⟩) 3 co), (4, .pointer (some ⟨b4, 0, none⟩)), (5, .int .i64 0), (6, .pointer (some ⟨b6, 0, none⟩))] ∧ L = [pts b1 (.cells [v].toArray 24), row 9 1 (.slice (some ⟨bt, 0, none⟩) 3 3) avTops, P, row 25 1 (.slice none 0 0) [], row 57 3 (.slice (some ⟨bo, 0, none⟩) 3 co) avOuts, row 25 1 (.slice (some ⟨bs, 0, none⟩) 2 cs) [[.int .u64 0], [.int .u64 1]], pts b4 (.cells [.int .u64 2, .slice (some ⟨bs, 0, none⟩) 2 cs].toArray 28), pts b6 (.cells [.int .u64 0, .slice none 0 0].toArray 28)] ++ R) ?_ ?_
    · rintro ⟨pp, cp, b6, b7, pk, ck, pm, cm⟩ ρ L ⟨hk, rfl⟩
      refine cont_regs hk ?_
      refine cont_node [] [(5, [0, 1, 2, 3, 4, 5], [6, 7, 8, 9, 11, 12, 13, 14]), (11, [11], [0, 1, 2, 3, 4, 5, 6, 7, 8, 9, 12, 13, 14])] rfl (by decide +kernel) ?_
      refine nodeE2 ?_ ?_
      · dsimp only [List.length_cons, List.length_nil]
        repeat' (first | (refine go_Y ?_; intros) | fail)
        refine clN_Y (hat) ?_
        rintro ⟨⟨wp, hwp⟩, ⟨wc, hwc⟩, ⟨wm, hwm⟩⟩ _
        repeat' (first | (refine go_Y ?_; intros) | fail)
        dsimp only
        refine cont_learn (rowShapeS (e := 25) (n := 1) (v := wp) (xs := [[.int .u64 0], [.int .u64 1]]) (by decide) takeD) ?_
        rintro ⟨p1, c1, rfl, _, _⟩
        refine cont_learn (rowShapeS (e := 3) (n := 1) (v := wc) (xs := [[.int .i64 0], [.int .i64 1]]) (by decide) takeD) ?_
        rintro ⟨p2, c2, rfl, _, _⟩
        refine cont_learn (rowShapeS (e := 25) (n := 1) (v := wm) (xs := [[.int .u64 0], [.int .u64 1]]) (by decide) takeD) ?_
        rintro ⟨p3, c3, rfl, _, _⟩
        refine cont_map (L' := [pts b1 (.cells [v].toArray 24), row 9 1 (.slice (some ⟨bt, 0, none⟩) 3 3) avTops, P, row 25 1 (.slice none 0 0) [], row 57 3 (.slice (some ⟨bo, 0, none⟩) 3 co) avOuts, row 25 1 (.slice (some ⟨bs, 0, none⟩) 2 cs) [[.int .u64 0], [.int .u64 1]], pts b4 (.cells [.int .u64 2, .slice (some ⟨bs, 0, none⟩) 2 cs].toArray 28), row 25 1 (.slice p1 2 c1) [[.int .u64 0], [.int .u64 1]], row 3 1 (.slice p2 2 c2) [[.int .i64 0], [.int .i64 1]], row 25 1 (.slice p3 2 c3) [[.int .u64 0], [.int .u64 1]], pts b6 (.cells [.int .u64 0, .slice none 0 0].toArray 28)] ++ R) entD ?_
        exact n5_10 ⟨p1, c1, b6, b7, p2, c2, p3, c3⟩ _ _ ⟨⟨rfl, rfl, rfl, rfl, rfl, rfl, rfl, trivial⟩, rfl⟩
      · dsimp only [List.length_cons, List.length_nil]
        repeat' (first | (refine go_Y ?_; intros) | fail)
        rename_i w
        refine cont_map (L' := [pts b1 (.cells [v].toArray 24), row 9 1 (.slice (some ⟨bt, 0, none⟩) 3 3) avTops, P, row 25 1 (.slice none 0 0) [], row 57 3 (.slice (some ⟨bo, 0, none⟩) 3 co) avOuts, row 25 1 (.slice (some ⟨bs, 0, none⟩) 2 cs) [[.int .u64 0], [.int .u64 1]], pts b4 (.cells [.int .u64 2, .slice (some ⟨bs, 0, none⟩) 2 cs].toArray 28), pts b6 (.cells [.int .u64 0, .slice none 0 0].toArray 28), pts w (.cells [.int .u8 0, .int .u64 0, .slice none 0 0, .slice none 0 0].toArray 59)] ++ R) entD ?_
        exact n10_11 ⟨pp, cp, b6, w, pk, ck, pm, cm⟩ _ _ ⟨⟨rfl, rfl, rfl, rfl, rfl, rfl, rfl, trivial⟩, rfl⟩
    intro n10
    refine node_have 4 [0, 1, 2, 3, 4, 5, 6, 7, 8, 9, 10, 12, 13, 14] (γ := Option Addr × Nat × Nat × Nat × Option Addr × Nat × Option Addr × Nat) (fun ⟨pp, cp, b6, b7, pk, ck, pm, cm⟩ ρ L => Knows ρ [(1, .pointer (some ⟨b1, 0, none⟩)), (2, .slice (some ⟨bt, 0, none⟩) 3 3), (3, .slice (some ⟨bo, 0, none⟩) 3 co), (4, .pointer (some ⟨b4, 0, none⟩)), (5, .int .i64 0), (7, .pointer (some ⟨b7, 0, none⟩))] ∧ L = [pts b1 (.cells [v].toArray 24), row 9 1 (.slice (some ⟨bt, 0, none⟩) 3 3) avTops, P, row 25 1 (.slice none 0 0) [], row 57 3 (.slice (some ⟨bo, 0, none⟩) 3 co) avOuts, row 25 1 (.slice (some ⟨bs, 0, none⟩) 2 cs) [[.int .u64 0], [.int .u64 1]], pts b4 (.cells [.int .u64 2, .slice (some ⟨bs, 0, none⟩) 2 cs].toArray 28), pts b7 (.cells [.int .u8 0, .int .u64 0, .slice none 0 0, .slice none 0 0].toArray 59)] ++ R) ?_ ?_
    · rintro ⟨pp, cp, b6, b7, pk, ck, pm, cm⟩ ρ L ⟨hk, rfl⟩
      refine cont_regs hk ?_
      refine cont_node [] [(5, [0, 1, 2, 3, 4, 5], [6, 7, 8, 9, 10, 12, 13, 14]), (10, [10], [0, 1, 2, 3, 4, 5, 6, 7, 8, 9, 12, 13, 14])] rfl (by decide +kernel) ?_
      refine nodeE2 ?_ ?_
      · dsimp only [List.length_cons, List.length_nil]
        repeat' (first | (refine go_Y ?_; intros) | fail)
        refine clN_Y (hat) ?_
        rintro ⟨⟨wp, hwp⟩, ⟨wc, hwc⟩, ⟨wm, hwm⟩⟩ _
        repeat' (first | (refine go_Y ?_; intros) | fail)
        dsimp only
        refine cont_learn (rowShapeS (e := 25) (n := 1) (v := wp) (xs := [[.int .u64 0], [.int .u64 1]]) (by decide) takeD) ?_
        rintro ⟨p1, c1, rfl, _, _⟩
        refine cont_learn (rowShapeS (e := 3) (n := 1) (v := wc) (xs := [[.int .i64 0], [.int .i64 1]]) (by decide) takeD) ?_
        rintro ⟨p2, c2, rfl, _, _⟩
        refine cont_learn (rowShapeS (e := 25) (n := 1) (v := wm) (xs := [[.int .u64 0], [.int .u64 1]]) (by decide) takeD) ?_
        rintro ⟨p3, c3, rfl, _, _⟩
        refine cont_map (L' := [pts b1 (.cells [v].toArray 24), row 9 1 (.slice (some ⟨bt, 0, none⟩) 3 3) avTops, P, row 25 1 (.slice none 0 0) [], row 57 3 (.slice (some ⟨bo, 0, none⟩) 3 co) avOuts, row 25 1 (.slice (some ⟨bs, 0, none⟩) 2 cs) [[.int .u64 0], [.int .u64 1]], pts b4 (.cells [.int .u64 2, .slice (some ⟨bs, 0, none⟩) 2 cs].toArray 28), row 25 1 (.slice p1 2 c1) [[.int .u64 0], [.int .u64 1]], row 3 1 (.slice p2 2 c2) [[.int .i64 0], [.int .i64 1]], row 25 1 (.slice p3 2 c3) [[.int .u64 0], [.int .u64 1]], pts b7 (.cells [.int .u8 0, .int .u64 0, .slice none 0 0, .slice none 0 0].toArray 59)] ++ R) entD ?_
        exact n5_11 ⟨p1, c1, b6, b7, p2, c2, p3, c3⟩ _ _ ⟨⟨rfl, rfl, rfl, rfl, rfl, rfl, rfl, trivial⟩, rfl⟩
      · dsimp only [List.length_cons, List.length_nil]
        repeat' (first | (refine go_Y ?_; intros) | fail)
        rename_i w
        refine cont_map (L' := [pts b1 (.cells [v].toArray 24), row 9 1 (.slice (some ⟨bt, 0, none⟩) 3 3) avTops, P, row 25 1 (.slice none 0 0) [], row 57 3 (.slice (some ⟨bo, 0, none⟩) 3 co) avOuts, row 25 1 (.slice (some ⟨bs, 0, none⟩) 2 cs) [[.int .u64 0], [.int .u64 1]], pts b4 (.cells [.int .u64 2, .slice (some ⟨bs, 0, none⟩) 2 cs].toArray 28), pts w (.cells [.int .u64 0, .slice none 0 0].toArray 28), pts b7 (.cells [.int .u8 0, .int .u64 0, .slice none 0 0, .slice none 0 0].toArray 59)] ++ R) entD ?_
        exact n10_11 ⟨pp, cp, w, b7, pk, ck, pm, cm⟩ _ _ ⟨⟨rfl, rfl, rfl, rfl, rfl, rfl, rfl, trivial⟩, rfl⟩
    intro n11
    refine cont_node [] [(5, [0, 1, 2, 3, 4, 5], [6, 7, 8, 9, 10, 11, 12, 13, 14]), (10, [10], [0, 1, 2, 3, 4, 5, 6, 7, 8, 9, 11, 12, 13, 14]), (11, [11], [0, 1, 2, 3, 4, 5, 6, 7, 8, 9, 10, 12, 13, 14])] rfl (by decide +kernel) ?_
    refine nodeE3 ?_ ?_ ?_
    · dsimp only [List.length_cons, List.length_nil]
      repeat' (first | (refine go_Y ?_; intros) | fail)
      refine clN_Y (hat) ?_
      rintro ⟨⟨wp, hwp⟩, ⟨wc, hwc⟩, ⟨wm, hwm⟩⟩ _
      repeat' (first | (refine go_Y ?_; intros) | fail)
      dsimp only
      refine cont_learn (rowShapeS (e := 25) (n := 1) (v := wp) (xs := [[.int .u64 0], [.int .u64 1]]) (by decide) takeD) ?_
      rintro ⟨p1, c1, rfl, _, _⟩
      refine cont_learn (rowShapeS (e := 3) (n := 1) (v := wc) (xs := [[.int .i64 0], [.int .i64 1]]) (by decide) takeD) ?_
      rintro ⟨p2, c2, rfl, _, _⟩
      refine cont_learn (rowShapeS (e := 25) (n := 1) (v := wm) (xs := [[.int .u64 0], [.int .u64 1]]) (by decide) takeD) ?_
      rintro ⟨p3, c3, rfl, _, _⟩
      refine cont_map (L' := [pts b1 (.cells [v].toArray 24), row 9 1 (.slice (some ⟨bt, 0, none⟩) 3 3) avTops, P, row 25 1 (.slice none 0 0) [], row 57 3 (.slice (some ⟨bo, 0, none⟩) 3 co) avOuts, row 25 1 (.slice (some ⟨bs, 0, none⟩) 2 cs) [[.int .u64 0], [.int .u64 1]], pts b4 (.cells [.int .u64 2, .slice (some ⟨bs, 0, none⟩) 2 cs].toArray 28), row 25 1 (.slice p1 2 c1) [[.int .u64 0], [.int .u64 1]], row 3 1 (.slice p2 2 c2) [[.int .i64 0], [.int .i64 1]], row 25 1 (.slice p3 2 c3) [[.int .u64 0], [.int .u64 1]]] ++ R) entD ?_
      exact n5 ⟨p1, c1, 0, 0, p2, c2, p3, c3⟩ _ _ ⟨⟨rfl, rfl, rfl, rfl, rfl, rfl, trivial⟩, rfl⟩
    · dsimp only [List.length_cons, List.length_nil]
      repeat' (first | (refine go_Y ?_; intros) | fail)
      rename_i w
      refine cont_map (L' := [pts b1 (.cells [v].toArray 24), row 9 1 (.slice (some ⟨bt, 0, none⟩) 3 3) avTops, P, row 25 1 (.slice none 0 0) [], row 57 3 (.slice (some ⟨bo, 0, none⟩) 3 co) avOuts, row 25 1 (.slice (some ⟨bs, 0, none⟩) 2 cs) [[.int .u64 0], [.int .u64 1]], pts b4 (.cells [.int .u64 2, .slice (some ⟨bs, 0, none⟩) 2 cs].toArray 28), pts w (.cells [.int .u64 0, .slice none 0 0].toArray 28)] ++ R) entD ?_
      exact n10 ⟨none, 0, w, 0, none, 0, none, 0⟩ _ _ ⟨⟨rfl, rfl, rfl, rfl, rfl, rfl, trivial⟩, rfl⟩
    · dsimp only [List.length_cons, List.length_nil]
      repeat' (first | (refine go_Y ?_; intros) | fail)
      rename_i w
      refine cont_map (L' := [pts b1 (.cells [v].toArray 24), row 9 1 (.slice (some ⟨bt, 0, none⟩) 3 3) avTops, P, row 25 1 (.slice none 0 0) [], row 57 3 (.slice (some ⟨bo, 0, none⟩) 3 co) avOuts, row 25 1 (.slice (some ⟨bs, 0, none⟩) 2 cs) [[.int .u64 0], [.int .u64 1]], pts b4 (.cells [.int .u64 2, .slice (some ⟨bs, 0, none⟩) 2 cs].toArray 28), pts w (.cells [.int .u8 0, .int .u64 0, .slice none 0 0, .slice none 0 0].toArray 59)] ++ R) entD ?_
      exact n11 ⟨none, 0, 0, w, none, 0, none, 0⟩ _ _ ⟨⟨rfl, rfl, rfl, rfl, rfl, rfl, trivial⟩, rfl⟩
  rintro ⟨pp, cp, b6, b7, pk, ck, pm, cm⟩ ρ L ⟨hk, rfl⟩
  dsimp only at hk ⊢
  refine cont_regs hk ?_
  repeat' (first | (refine go_Y ?_; intros) | (refine gs_Y ?_ ?_ <;> (intro hgd; try (simp only [Bool.not_true, Bool.not_false] at hgd))) | (refine gc_Y ?_ ?_ <;> intro _) | fail)
  refine cl_Y (hno) ?_
  rintro ⟨⟨w1, hw1⟩, ⟨w2, hw2⟩⟩ _
  dsimp only
  refine ops_learn (rowShapeS (e := 25) (n := 1) (v := w2) (xs := []) (by decide) takeD) ?_
  rintro ⟨p2, c2, rfl, _, _⟩
  have hsp := samePlace_spec 2 2 [0, 1] [0, 1] (.slice (some ⟨bs, 0, none⟩) 2 cs) (.slice pp 2 cp) (row 25 1 (.slice (some ⟨bs, 0, none⟩) 2 cs) [[.int .u64 0], [.int .u64 1]]) (row 25 1 (.slice pp 2 cp) [[.int .u64 0], [.int .u64 1]]) rfl rfl Vw.row Vw.row (by decide)
  have hy2 : avTops[2]? = some [.string ⟨#[116, 45, 98]⟩] := rfl
  have hx0 : avOuts[0]? = some [.string ⟨#[109, 97, 114, 107, 115]⟩, .int .u64 1, .string (putMB 1 5 [] [0, 0])] := rfl
  have hx1 : avOuts[1]? = some [.string ⟨#[116, 45, 98]⟩, .int .u64 1, .string (putEB 5 0 0 (alC (nV 1) (nV 2)))] := rfl
  have hs1 : ([[.int .u64 0], [.int .u64 1]] : List (List Value))[1]? = some [.int .u64 1] := rfl
  repeat' (first | (refine go_Y ?_; intros) | (refine gs_Y ?_ ?_ <;> (intro hgd; try (simp only [Bool.not_true, Bool.not_false] at hgd))) | (refine gc_Y ?_ ?_ <;> intro _) | fail)
  refine cl_Y (hsp) ?_
  intro y hy
  obtain rfl : y = true := hy.2 ⟨rfl, rfl⟩
  repeat' (first | (refine go_Y ?_; intros) | (refine gs_Y ?_ ?_ <;> (intro hgd; try (simp only [Bool.not_true, Bool.not_false] at hgd))) | (refine gc_Y ?_ ?_ <;> intro _) | fail)
  refine cont_map (fun _ h => ext_in hEA (Take.out1 takeD h)) ?_
  (refine rt_Y (y := ()) (hrs := Tryd.results7) (hv := ?_) (hφ := ?_))
  · rfl
  · trivial
end Go.Proofs.YtphaegcoldpclaaDoor
