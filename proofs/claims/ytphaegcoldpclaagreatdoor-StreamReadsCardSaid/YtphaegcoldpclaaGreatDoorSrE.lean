import Derived.Test.YtphaegcoldpclaaGreatDoorG11
import Derived.Test.YtphaegcoldpclaaGreatDoorG13
set_option linter.unusedSimpArgs false
set_option linter.unusedVariables false
set_option maxRecDepth 100000
namespace Go.Proofs.YtphaegcoldpclaaGreatDoor
open Go Go.Fx Go.Proofs Go.Pl

set_option maxHeartbeats 8000000 in
theorem at20_spec (vs : Value) (ts : List Tb) (seq : Int) (t : BA) (A : HProp) (hvc : vs.oneCell' = true) (h : SV A vs ts) (hs : t.size ≤ 1000000) (s0 : 0 ≤ seq) :
    FSpec Tryz.prog 29 [.agg #[vs], .int .u64 seq, .string t] [A] (V1s × V1s × V1s) (fun _ => True)
      (fun y => .tuple #[.agg #[.int .u64 (atS (ts.map Tb.c) seq t).1, y.1.1], .agg #[.int .u8 (atS (ts.map Tb.c) seq t).2.1.kind, .int .u64 (atS (ts.map Tb.c) seq t).2.1.tx, y.2.1.1, y.2.2.1], .int .i64 (atS (ts.map Tb.c) seq t).2.2])
      (fun y => [row 26 1 y.1.1 ((atS (ts.map Tb.c) seq t).2.1.seqs.map sqV), row 3 1 y.2.1.1 ((atS (ts.map Tb.c) seq t).2.1.counts.map dpV), row 26 1 y.2.2.1 ((atS (ts.map Tb.c) seq t).2.1.seqs.map sqV), A]) := by
  have hA := h.vw
  have hck := rMay_spec vs ts A hvc h
  have hgm := getMark16_spec t hs
  have hlen := getMK_len t
  have herr := getMK_err t
  have e0 : (!decide ((0 : Int) = (0 : Int))) = false := by decide
  have e2 : (!decide ((2 : Int) = (0 : Int))) = true := by decide
  have e7 : (!decide ((7 : Int) = (0 : Int))) = true := by decide
  unfold atS
  rw [List.length_map]
  generalize getMK t = g at hgm hlen herr
  cases hc : checkS (ts.map Tb.c) with
  | false =>
    rw [hc] at hck
    rw [Bool.false_and, cond_false]
    dsimp only [mk0, List.map_nil]
    refine spec_intro [] _ Tryz.func29 rfl Tryz.ntmps29 (by rfl) (fun w0 R => ?_)
    refine ok_learn (VwIn.slice (VwIn.here hA)) ?_
    rintro ⟨pv, cv, rfl⟩
    refine ok_map (fun _ h => nilRow (e := 3) (n := 1) (nilRow (e := 26) (n := 1) (nilRow (e := 26) (n := 1) h))) ?_
    repeat' (first | (refine go_Y ?_; intros) | (refine gs_Y ?_ ?_ <;> (intro hgd; try (simp only [bn] at hgd))) | (refine gc_Y ?_ ?_ <;> intro _) | fail)
    refine cl_Y (hck) ?_
    intro _ _
    repeat' (first | (refine go_Y ?_; intros) | (refine gs_Y ?_ ?_ <;> (intro hgd; try (simp only [bn] at hgd))) | (refine gc_Y ?_ ?_ <;> intro _) | fail)
    (refine rt_Y (y := (⟨.slice none 0 0, rfl⟩, ⟨.slice none 0 0, rfl⟩, ⟨.slice none 0 0, rfl⟩)) (hrs := Tryz.results29) (hv := ?_) (hφ := ?_))
    · rfl
    · trivial
  | true =>
  rw [hc] at hck
  rw [Bool.true_and]
  cases c1 : decide (seq < 1) with
  | true =>
    rw [show decide (1 ≤ seq) = false by rw [decide_eq_true_eq] at c1; rw [decide_eq_false_iff_not]; omega, Bool.false_and, cond_false]
    dsimp only [mk0, List.map_nil]
    refine spec_intro [] _ Tryz.func29 rfl Tryz.ntmps29 (by rfl) (fun w0 R => ?_)
    refine ok_learn (VwIn.slice (VwIn.here hA)) ?_
    rintro ⟨pv, cv, rfl⟩
    refine ok_map (fun _ h => nilRow (e := 3) (n := 1) (nilRow (e := 26) (n := 1) (nilRow (e := 26) (n := 1) h))) ?_
    repeat' (first | (refine go_Y ?_; intros) | (refine gs_Y ?_ ?_ <;> (intro hgd; try (simp only [bn] at hgd))) | (refine gc_Y ?_ ?_ <;> intro _) | fail)
    refine cl_Y (hck) ?_
    intro _ _
    repeat' (first | (refine go_Y ?_; intros) | (refine gs_Y ?_ ?_ <;> (intro hgd; try (simp only [bn] at hgd))) | (refine gc_Y ?_ ?_ <;> intro _) | fail)
    (refine rt_Y (y := (⟨.slice none 0 0, rfl⟩, ⟨.slice none 0 0, rfl⟩, ⟨.slice none 0 0, rfl⟩)) (hrs := Tryz.results29) (hv := ?_) (hφ := ?_))
    · rfl
    · trivial
  | false =>
  rw [show decide (1 ≤ seq) = true by rw [decide_eq_false_iff_not] at c1; rw [decide_eq_true_eq]; omega, Bool.true_and]
  cases c2 : decide (4611686018427387904 < seq) with
  | true =>
    rw [show decide (seq ≤ 4611686018427387904) = false by rw [decide_eq_true_eq] at c2; rw [decide_eq_false_iff_not]; omega, cond_false]
    dsimp only [mk0, List.map_nil]
    refine spec_intro [] _ Tryz.func29 rfl Tryz.ntmps29 (by rfl) (fun w0 R => ?_)
    refine ok_learn (VwIn.slice (VwIn.here hA)) ?_
    rintro ⟨pv, cv, rfl⟩
    refine ok_map (fun _ h => nilRow (e := 3) (n := 1) (nilRow (e := 26) (n := 1) (nilRow (e := 26) (n := 1) h))) ?_
    repeat' (first | (refine go_Y ?_; intros) | (refine gs_Y ?_ ?_ <;> (intro hgd; try (simp only [bn] at hgd))) | (refine gc_Y ?_ ?_ <;> intro _) | fail)
    refine cl_Y (hck) ?_
    intro _ _
    repeat' (first | (refine go_Y ?_; intros) | (refine gs_Y ?_ ?_ <;> (intro hgd; try (simp only [bn] at hgd))) | (refine gc_Y ?_ ?_ <;> intro _) | fail)
    (refine rt_Y (y := (⟨.slice none 0 0, rfl⟩, ⟨.slice none 0 0, rfl⟩, ⟨.slice none 0 0, rfl⟩)) (hrs := Tryz.results29) (hv := ?_) (hφ := ?_))
    · rfl
    · trivial
  | false =>
  have hq1 : seq ≤ 4611686018427387904 := by rw [decide_eq_false_iff_not] at c2; omega
  have hq0 : 1 ≤ seq := by rw [decide_eq_false_iff_not] at c1; omega
  rw [show decide (seq ≤ 4611686018427387904) = true by rw [decide_eq_true_eq]; exact hq1, cond_true]
  obtain ⟨⟨gk, gt, gc, gq⟩, ge⟩ := g
  dsimp only at hgm hlen herr ⊢
  rcases herr with rfl | ⟨rfl, hm0⟩
  · cases hf : fitsP ts.length seq gq with
    | false =>
      rw [if_neg (by intro e; cases e.2)]
      dsimp only [mk0, List.map_nil]
      refine spec_intro [] _ Tryz.func29 rfl Tryz.ntmps29 (by rfl) (fun w0 R => ?_)
      refine ok_learn (VwIn.slice (VwIn.here hA)) ?_
      rintro ⟨pv, cv, rfl⟩
      refine ok_map (fun _ h => nilRow (e := 3) (n := 1) (nilRow (e := 26) (n := 1) (nilRow (e := 26) (n := 1) h))) ?_
      repeat' (first | (refine go_Y ?_; intros) | (refine gs_Y ?_ ?_ <;> (intro hgd; try (simp only [bn] at hgd))) | (refine gc_Y ?_ ?_ <;> intro _) | fail)
      refine cl_Y (hck) ?_
      intro _ _
      repeat' (first | (refine go_Y ?_; intros) | (refine gs_Y ?_ ?_ <;> (intro hgd; try (simp only [bn] at hgd))) | (refine gc_Y ?_ ?_ <;> intro _) | fail)
      refine cl_Y (hgm) ?_
      rintro ⟨⟨vc, hvc⟩, ⟨vq, hvq⟩⟩ _
      refine ops_learn (rowShapeS (e := 3) (n := 1) (v := vc) (xs := gc.map dpV) (by decide) takeD) ?_
      rintro ⟨pc, cc, rfl, _, _⟩
      refine ops_learn (rowShapeS (e := 26) (n := 1) (v := vq) (xs := gq.map sqV) (by decide) takeD) ?_
      rintro ⟨pq, cq, rfl, _, _⟩
      have hfit := fits20_spec 0 gq (.slice pv (ts.map tbV).length cv) (.slice pq (gq.map sqV).length cq) ts A (row 26 1 (.slice pq (gq.map sqV).length cq) (gq.map sqV)) hA Vw.row (by omega)
      rw [show fitsP ts.length 0 gq = fitsP ts.length seq gq by unfold fitsP; rw [show decide ((0 : Int) ≤ 4611686018427387904) = true from rfl, show decide (seq ≤ 4611686018427387904) = true by rw [decide_eq_true_eq]; exact hq1], hf] at hfit
      repeat' (first | (refine go_Y ?_; intros) | (refine gs_Y ?_ ?_ <;> (intro hgd; try (simp only [bn] at hgd))) | (refine gc_Y ?_ ?_ <;> intro _) | fail)
      refine cl_Y (hfit) ?_
      intro _ _
      repeat' (first | (refine go_Y ?_; intros) | (refine gs_Y ?_ ?_ <;> (intro hgd; try (simp only [bn] at hgd))) | (refine gc_Y ?_ ?_ <;> intro _) | fail)
      (refine rt_Y (y := (⟨.slice none 0 0, rfl⟩, ⟨.slice none 0 0, rfl⟩, ⟨.slice none 0 0, rfl⟩)) (hrs := Tryz.results29) (hv := ?_) (hφ := ?_))
      · rfl
      · trivial
    | true =>
      rw [if_pos ⟨rfl, rfl⟩]
      dsimp only
      cases hk1 : decide (gk = 1) with
      | true =>
        obtain rfl : gk = 1 := of_decide_eq_true hk1
        rw [if_pos rfl]
        have hw : IntKind.u64.wrap (arith BinOp.sub seq 1) = seq - 1 := u64_eq (x := seq - 1) (by omega) (by omega)
        refine spec_intro [] _ Tryz.func29 rfl Tryz.ntmps29 (by rfl) (fun w0 R => ?_)
        refine ok_learn (VwIn.slice (VwIn.here hA)) ?_
        rintro ⟨pv, cv, rfl⟩
        repeat' (first | (refine go_Y ?_; intros) | (refine gs_Y ?_ ?_ <;> (intro hgd; try (simp only [bn] at hgd))) | (refine gc_Y ?_ ?_ <;> intro _) | fail)
        refine cl_Y (hck) ?_
        intro _ _
        repeat' (first | (refine go_Y ?_; intros) | (refine gs_Y ?_ ?_ <;> (intro hgd; try (simp only [bn] at hgd))) | (refine gc_Y ?_ ?_ <;> intro _) | fail)
        refine cl_Y (hgm) ?_
        rintro ⟨⟨vc, hvc⟩, ⟨vq, hvq⟩⟩ _
        refine ops_learn (rowShapeS (e := 3) (n := 1) (v := vc) (xs := gc.map dpV) (by decide) takeD) ?_
        rintro ⟨pc, cc, rfl, _, _⟩
        refine ops_learn (rowShapeS (e := 26) (n := 1) (v := vq) (xs := gq.map sqV) (by decide) takeD) ?_
        rintro ⟨pq, cq, rfl, _, _⟩
        have hfit := fits20_spec 0 gq (.slice pv (ts.map tbV).length cv) (.slice pq (gq.map sqV).length cq) ts A (row 26 1 (.slice pq (gq.map sqV).length cq) (gq.map sqV)) hA Vw.row (by omega)
        rw [show fitsP ts.length 0 gq = fitsP ts.length seq gq by unfold fitsP; rw [show decide ((0 : Int) ≤ 4611686018427387904) = true from rfl, show decide (seq ≤ 4611686018427387904) = true by rw [decide_eq_true_eq]; exact hq1], hf] at hfit
        repeat' (first | (refine go_Y ?_; intros) | (refine gs_Y ?_ ?_ <;> (intro hgd; try (simp only [bn] at hgd))) | (refine gc_Y ?_ ?_ <;> intro _) | fail)
        rename_i b9
        refine cl_Y (hfit) ?_
        intro _ _
        repeat' (first | (refine go_Y ?_; intros) | (refine gs_Y ?_ ?_ <;> (intro hgd; try (simp only [bn] at hgd))) | (refine gc_Y ?_ ?_ <;> intro _) | fail)
        rename_i b11
        rw [hw]
        refine ok_drawL (cv := []) [1, 3] ([pts b11 (.cells [.int .u64 (seq - 1), .slice pq (gq.map sqV).length cq].toArray 72), pts b9 (.cells [.int .u8 1, .int .u64 gt, .slice pc (gc.map dpV).length cc, .slice pq (gq.map sqV).length cq].toArray 75)]) (takeD) (by kernel_rfl) rfl (by decide +kernel) ?_
        repeat' (first | (refine go_Y ?_; intros) | (refine gs_Y ?_ ?_ <;> (intro hgd; try (simp only [bn] at hgd))) | (refine gc_Y ?_ ?_ <;> intro _) | fail)
        refine clN_Y (copy20_spec (seq - 1) gq (.slice pq (gq.map sqV).length cq) (row 26 1 (.slice pq (gq.map sqV).length cq) (gq.map sqV)) Vw.row (by omega)) ?_
        rintro ⟨vp, hvp⟩ _
        refine ops_learn (rowShapeS (e := 26) (n := 1) (v := vp) (xs := gq.map sqV) (by decide) takeD) ?_
        rintro ⟨pp, cp, rfl, _, _⟩
        repeat' (first | (refine go_Y ?_; intros) | (refine gs_Y ?_ ?_ <;> (intro hgd; try (simp only [bn] at hgd))) | (refine gc_Y ?_ ?_ <;> intro _) | fail)
        (refine rt_Y (y := (⟨_, hvp⟩, ⟨_, hvc⟩, ⟨_, hvq⟩)) (hrs := Tryz.results29) (hv := ?_) (hφ := ?_))
        · rfl
        · trivial
      | false =>
        rw [if_neg (of_decide_eq_false hk1)]
        refine spec_intro [] _ Tryz.func29 rfl Tryz.ntmps29 (by rfl) (fun w0 R => ?_)
        refine ok_learn (VwIn.slice (VwIn.here hA)) ?_
        rintro ⟨pv, cv, rfl⟩
        repeat' (first | (refine go_Y ?_; intros) | (refine gs_Y ?_ ?_ <;> (intro hgd; try (simp only [bn] at hgd))) | (refine gc_Y ?_ ?_ <;> intro _) | fail)
        refine cl_Y (hck) ?_
        intro _ _
        repeat' (first | (refine go_Y ?_; intros) | (refine gs_Y ?_ ?_ <;> (intro hgd; try (simp only [bn] at hgd))) | (refine gc_Y ?_ ?_ <;> intro _) | fail)
        refine cl_Y (hgm) ?_
        rintro ⟨⟨vc, hvc⟩, ⟨vq, hvq⟩⟩ _
        refine ops_learn (rowShapeS (e := 3) (n := 1) (v := vc) (xs := gc.map dpV) (by decide) takeD) ?_
        rintro ⟨pc, cc, rfl, _, _⟩
        refine ops_learn (rowShapeS (e := 26) (n := 1) (v := vq) (xs := gq.map sqV) (by decide) takeD) ?_
        rintro ⟨pq, cq, rfl, _, _⟩
        have hfit := fits20_spec 0 gq (.slice pv (ts.map tbV).length cv) (.slice pq (gq.map sqV).length cq) ts A (row 26 1 (.slice pq (gq.map sqV).length cq) (gq.map sqV)) hA Vw.row (by omega)
        rw [show fitsP ts.length 0 gq = fitsP ts.length seq gq by unfold fitsP; rw [show decide ((0 : Int) ≤ 4611686018427387904) = true from rfl, show decide (seq ≤ 4611686018427387904) = true by rw [decide_eq_true_eq]; exact hq1], hf] at hfit
        repeat' (first | (refine go_Y ?_; intros) | (refine gs_Y ?_ ?_ <;> (intro hgd; try (simp only [bn] at hgd))) | (refine gc_Y ?_ ?_ <;> intro _) | fail)
        rename_i b9
        refine cl_Y (hfit) ?_
        intro _ _
        repeat' (first | (refine go_Y ?_; intros) | (refine gs_Y ?_ ?_ <;> (intro hgd; try (simp only [bn] at hgd))) | (refine gc_Y ?_ ?_ <;> intro _) | fail)
        rename_i b11
        refine ok_drawL (cv := []) [1, 3] ([pts b11 (.cells [.int .u64 seq, .slice pq (gq.map sqV).length cq].toArray 72), pts b9 (.cells [.int .u8 gk, .int .u64 gt, .slice pc (gc.map dpV).length cc, .slice pq (gq.map sqV).length cq].toArray 75)]) (takeD) (by kernel_rfl) rfl (by decide +kernel) ?_
        repeat' (first | (refine go_Y ?_; intros) | (refine gs_Y ?_ ?_ <;> (intro hgd; try (simp only [bn] at hgd))) | (refine gc_Y ?_ ?_ <;> intro _) | fail)
        refine clN_Y (copy20_spec seq gq (.slice pq (gq.map sqV).length cq) (row 26 1 (.slice pq (gq.map sqV).length cq) (gq.map sqV)) Vw.row (by omega)) ?_
        rintro ⟨vp, hvp⟩ _
        refine ops_learn (rowShapeS (e := 26) (n := 1) (v := vp) (xs := gq.map sqV) (by decide) takeD) ?_
        rintro ⟨pp, cp, rfl, _, _⟩
        repeat' (first | (refine go_Y ?_; intros) | (refine gs_Y ?_ ?_ <;> (intro hgd; try (simp only [bn] at hgd))) | (refine gc_Y ?_ ?_ <;> intro _) | fail)
        (refine rt_Y (y := (⟨_, hvp⟩, ⟨_, hvc⟩, ⟨_, hvq⟩)) (hrs := Tryz.results29) (hv := ?_) (hφ := ?_))
        · rfl
        · trivial
  · obtain ⟨rfl, rfl, rfl, rfl⟩ := Mk.mk.inj hm0
    rw [if_neg (by intro e; cases e.1)]
    dsimp only [mk0, List.map_nil] at hgm ⊢
    refine spec_intro [] _ Tryz.func29 rfl Tryz.ntmps29 (by rfl) (fun w0 R => ?_)
    refine ok_learn (VwIn.slice (VwIn.here hA)) ?_
    rintro ⟨pv, cv, rfl⟩
    refine ok_map (fun _ h => nilRow (e := 3) (n := 1) (nilRow (e := 26) (n := 1) (nilRow (e := 26) (n := 1) h))) ?_
    repeat' (first | (refine go_Y ?_; intros) | (refine gs_Y ?_ ?_ <;> (intro hgd; try (simp only [bn] at hgd))) | (refine gc_Y ?_ ?_ <;> intro _) | fail)
    refine cl_Y (hck) ?_
    intro _ _
    repeat' (first | (refine go_Y ?_; intros) | (refine gs_Y ?_ ?_ <;> (intro hgd; try (simp only [bn] at hgd))) | (refine gc_Y ?_ ?_ <;> intro _) | fail)
    refine cl_Y (hgm) ?_
    rintro ⟨⟨vc, hvc⟩, ⟨vq, hvq⟩⟩ _
    refine ops_learn (rowShapeS (e := 3) (n := 1) (v := vc) (xs := []) (by decide) takeD) ?_
    rintro ⟨pc, cc, rfl, _, _⟩
    refine ops_learn (rowShapeS (e := 26) (n := 1) (v := vq) (xs := []) (by decide) takeD) ?_
    rintro ⟨pq, cq, rfl, _, _⟩
    repeat' (first | (refine go_Y ?_; intros) | (refine gs_Y ?_ ?_ <;> (intro hgd; try (simp only [bn] at hgd))) | (refine gc_Y ?_ ?_ <;> intro _) | fail)
    (refine rt_Y (y := (⟨.slice none 0 0, rfl⟩, ⟨.slice none 0 0, rfl⟩, ⟨.slice none 0 0, rfl⟩)) (hrs := Tryz.results29) (hv := ?_) (hφ := ?_))
    · rfl
    · trivial
end Go.Proofs.YtphaegcoldpclaaGreatDoor
