import Derived.Test.YtphaegcoldpclaaDoorStD
import Derived.Test.YtphaegcoldpclaaDoorStC
set_option linter.unusedSimpArgs false
set_option linter.unusedVariables false
set_option maxRecDepth 100000
namespace Go.Pl
open Go Go.Fx
def atS (s : Sc) (seq : Int) (t : BA) : Int × Mk × Int :=
  bif checkS s && (decide (1 ≤ seq) && decide (seq ≤ 4611686018427387904)) then
    (if (getMK t).2 = 0 ∧ fitsP s.length seq (getMK t).1.seqs = true then ((if (getMK t).1.kind = 1 then seq - 1 else seq), (getMK t).1, 0) else (0, mk0, 7))
  else (0, mk0, 2)
theorem getMK_err (t : BA) : (getMK t).2 = 0 ∨ (getMK t).2 = 7 ∧ (getMK t).1 = mk0 := by
  unfold getMK
  split
  · exact .inr ⟨rfl, rfl⟩
  · split
    · split
      · exact .inl rfl
      · exact .inr ⟨rfl, rfl⟩
    · exact .inr ⟨rfl, rfl⟩
theorem getMK_len (t : BA) : (getMK t).1.seqs.length ≤ 255 ∧ (getMK t).1.counts.length ≤ 255 := by
  have hn := nM_le t
  unfold getMK
  split
  · exact ⟨by show (0 : Nat) ≤ _; omega, by show (0 : Nat) ≤ _; omega⟩
  · split
    · split
      · dsimp only
        rw [qsM_len, csM_len]
        unfold cnM
        refine ⟨hn, ?_⟩
        split <;> omega
      · exact ⟨by show (0 : Nat) ≤ _; omega, by show (0 : Nat) ≤ _; omega⟩
    · exact ⟨by show (0 : Nat) ≤ _; omega, by show (0 : Nat) ≤ _; omega⟩
end Go.Pl
namespace Go.Proofs.YtphaegcoldpclaaDoor
open Go Go.Fx Go.Proofs Go.Pl

theorem cloneQ_spec (u : Value) (A : HProp) (l : List Int) (hA : Vw A 1 u (l.map sqV)) (hl : l.length ≤ 1000000) :
    FSpec Tryd.prog 53 [u] [A] V1s (fun _ => True) (fun y => y.1) (fun y => [row 25 1 y.1 (l.map sqV), A]) := by
  have la : (l.map sqV).length = l.length := by simp
  refine fspec_lrn (fun R hh s => (VwIn.slice (VwIn.here hA)) hh s) ?_
  rintro ⟨pu, cu, rfl⟩
  cases pu with
  | none =>
    refine fspec_lrn (φ0 := l.map sqV = []) (fun R hh s => ?_) ?_
    · obtain ⟨_, p', c', e, _, h3, _⟩ := (VwIn.here hA).satL s
      cases e
      exact h3 rfl
    intro hn
    obtain rfl : l = [] := List.map_eq_nil_iff.1 hn
    refine spec_intro [] _ Tryd.func53 rfl Tryd.ntmps53 (by rfl) (fun w0 R => ?_)
    refine ok_map (fun _ h => nilRow (e := 25) (n := 1) h) ?_
    repeat' (first | (refine go_Y ?_; intros) | (refine gs_Y ?_ ?_ <;> (intro hgd; try (simp only [Bool.not_true, Bool.not_false] at hgd))) | (refine gc_Y ?_ ?_ <;> intro _) | fail)
    (refine rt_Y (y := ⟨.slice none 0 0, rfl⟩) (hrs := Tryd.results53) (hv := ?_) (hφ := ?_))
    · rfl
    · trivial
  | some p =>
    refine spec_intro [] _ Tryd.func53 rfl Tryd.ntmps53 (by rfl) (fun w0 R => ?_)
    repeat' (first | (refine go_Y ?_; intros) | (refine gs_Y ?_ ?_ <;> (intro hgd; try (simp only [Bool.not_true, Bool.not_false] at hgd))) | (refine gc_Y ?_ ?_ <;> intro _) | fail)
    rename_i v1 hv1 v2 hv2
    rw [List.nil_append]
    (refine rt_Y (y := ⟨v2, hv2⟩) (hrs := Tryd.results53) (hv := ?_) (hφ := ?_))
    · rfl
    · trivial
set_option maxHeartbeats 8000000 in
theorem at_spec (vs : Value) (ts : List Tb) (seq : Int) (t : BA) (A : HProp) (h : SV A vs ts) (hs : t.size ≤ 1000000) (s0 : 0 ≤ seq) :
    FSpec Tryd.prog 21 [.agg #[vs], .int .u64 seq, .string t] [A] (V1s × V1s × V1s) (fun _ => True)
      (fun y => .tuple #[.agg #[.int .u64 (atS (ts.map Tb.c) seq t).1, y.1.1], .agg #[.int .u8 (atS (ts.map Tb.c) seq t).2.1.kind, .int .u64 (atS (ts.map Tb.c) seq t).2.1.tx, y.2.1.1, y.2.2.1], .int .i64 (atS (ts.map Tb.c) seq t).2.2])
      (fun y => [row 25 1 y.1.1 ((atS (ts.map Tb.c) seq t).2.1.seqs.map sqV), row 3 1 y.2.1.1 ((atS (ts.map Tb.c) seq t).2.1.counts.map dpV), row 25 1 y.2.2.1 ((atS (ts.map Tb.c) seq t).2.1.seqs.map sqV), A]) := by
  have hA := h.vw
  have hck := sCheck_spec vs ts A h
  have hgm := getMark_spec t hs
  have hlen := getMK_len t
  have herr := getMK_err t
  have e0 : (!decide ((0 : Int) = (0 : Int))) = false := by decide
  have e2 : (!decide ((2 : Int) = (0 : Int))) = true := by decide
  have e7 : (!decide ((7 : Int) = (0 : Int))) = true := by decide
  unfold atS
  rw [List.length_map]
  generalize getMK t = g at hgm hlen herr
  cases hc : checkS (ts.map Tb.c) with
  | false =>
    rw [hc, if_neg Bool.false_ne_true] at hck
    rw [Bool.false_and, cond_false]
    dsimp only [mk0, List.map_nil]
    refine spec_intro [] _ Tryd.func21 rfl Tryd.ntmps21 (by rfl) (fun w0 R => ?_)
    refine ok_learn (VwIn.slice (VwIn.here hA)) ?_
    rintro ⟨pv, cv, rfl⟩
    refine ok_map (fun _ h => nilRow (e := 3) (n := 1) (nilRow (e := 25) (n := 1) (nilRow (e := 25) (n := 1) h))) ?_
    repeat' (first | (refine go_Y ?_; intros) | (refine gs_Y ?_ ?_ <;> (intro hgd; try (simp only [Bool.not_true, Bool.not_false] at hgd))) | (refine gc_Y ?_ ?_ <;> intro _) | fail)
    refine cl_Y (hck) ?_
    intro _ _
    repeat' (first | (refine go_Y ?_; intros) | (refine gs_Y ?_ ?_ <;> (intro hgd; try (simp only [Bool.not_true, Bool.not_false] at hgd))) | (refine gc_Y ?_ ?_ <;> intro _) | fail)
    (refine rt_Y (y := (⟨.slice none 0 0, rfl⟩, ⟨.slice none 0 0, rfl⟩, ⟨.slice none 0 0, rfl⟩)) (hrs := Tryd.results21) (hv := ?_) (hφ := ?_))
    · rfl
    · trivial
  | true =>
  rw [hc, if_pos rfl] at hck
  rw [Bool.true_and]
  cases c1 : decide (seq < 1) with
  | true =>
    rw [show decide (1 ≤ seq) = false by rw [decide_eq_true_eq] at c1; rw [decide_eq_false_iff_not]; omega, Bool.false_and, cond_false]
    dsimp only [mk0, List.map_nil]
    refine spec_intro [] _ Tryd.func21 rfl Tryd.ntmps21 (by rfl) (fun w0 R => ?_)
    refine ok_learn (VwIn.slice (VwIn.here hA)) ?_
    rintro ⟨pv, cv, rfl⟩
    refine ok_map (fun _ h => nilRow (e := 3) (n := 1) (nilRow (e := 25) (n := 1) (nilRow (e := 25) (n := 1) h))) ?_
    repeat' (first | (refine go_Y ?_; intros) | (refine gs_Y ?_ ?_ <;> (intro hgd; try (simp only [Bool.not_true, Bool.not_false] at hgd))) | (refine gc_Y ?_ ?_ <;> intro _) | fail)
    refine cl_Y (hck) ?_
    intro _ _
    repeat' (first | (refine go_Y ?_; intros) | (refine gs_Y ?_ ?_ <;> (intro hgd; try (simp only [Bool.not_true, Bool.not_false] at hgd))) | (refine gc_Y ?_ ?_ <;> intro _) | fail)
    (refine rt_Y (y := (⟨.slice none 0 0, rfl⟩, ⟨.slice none 0 0, rfl⟩, ⟨.slice none 0 0, rfl⟩)) (hrs := Tryd.results21) (hv := ?_) (hφ := ?_))
    · rfl
    · trivial
  | false =>
  rw [show decide (1 ≤ seq) = true by rw [decide_eq_false_iff_not] at c1; rw [decide_eq_true_eq]; omega, Bool.true_and]
  cases c2 : decide (4611686018427387904 < seq) with
  | true =>
    rw [show decide (seq ≤ 4611686018427387904) = false by rw [decide_eq_true_eq] at c2; rw [decide_eq_false_iff_not]; omega, cond_false]
    dsimp only [mk0, List.map_nil]
    refine spec_intro [] _ Tryd.func21 rfl Tryd.ntmps21 (by rfl) (fun w0 R => ?_)
    refine ok_learn (VwIn.slice (VwIn.here hA)) ?_
    rintro ⟨pv, cv, rfl⟩
    refine ok_map (fun _ h => nilRow (e := 3) (n := 1) (nilRow (e := 25) (n := 1) (nilRow (e := 25) (n := 1) h))) ?_
    repeat' (first | (refine go_Y ?_; intros) | (refine gs_Y ?_ ?_ <;> (intro hgd; try (simp only [Bool.not_true, Bool.not_false] at hgd))) | (refine gc_Y ?_ ?_ <;> intro _) | fail)
    refine cl_Y (hck) ?_
    intro _ _
    repeat' (first | (refine go_Y ?_; intros) | (refine gs_Y ?_ ?_ <;> (intro hgd; try (simp only [Bool.not_true, Bool.not_false] at hgd))) | (refine gc_Y ?_ ?_ <;> intro _) | fail)
    (refine rt_Y (y := (⟨.slice none 0 0, rfl⟩, ⟨.slice none 0 0, rfl⟩, ⟨.slice none 0 0, rfl⟩)) (hrs := Tryd.results21) (hv := ?_) (hφ := ?_))
    · rfl
    · trivial
  | false =>
  have hq1 : seq ≤ 4611686018427387904 := by rw [decide_eq_false_iff_not] at c2; omega
  have hq0 : 1 ≤ seq := by rw [decide_eq_false_iff_not] at c1; omega
  rw [show decide (seq ≤ 4611686018427387904) = true by rw [decide_eq_true_eq]; exact hq1, cond_true]
  obtain ⟨⟨gk, gt, gc, gq⟩, ge⟩ := g
  dsimp only at hgm hlen herr ⊢
  rcases herr with rfl | ⟨rfl, hm0⟩
  · cases hf : fitsP ts.length seq gq with
    | false =>
      rw [if_neg (by intro e; cases e.2)]
      dsimp only [mk0, List.map_nil]
      refine spec_intro [] _ Tryd.func21 rfl Tryd.ntmps21 (by rfl) (fun w0 R => ?_)
      refine ok_learn (VwIn.slice (VwIn.here hA)) ?_
      rintro ⟨pv, cv, rfl⟩
      refine ok_map (fun _ h => nilRow (e := 3) (n := 1) (nilRow (e := 25) (n := 1) (nilRow (e := 25) (n := 1) h))) ?_
      repeat' (first | (refine go_Y ?_; intros) | (refine gs_Y ?_ ?_ <;> (intro hgd; try (simp only [Bool.not_true, Bool.not_false] at hgd))) | (refine gc_Y ?_ ?_ <;> intro _) | fail)
      refine cl_Y (hck) ?_
      intro _ _
      repeat' (first | (refine go_Y ?_; intros) | (refine gs_Y ?_ ?_ <;> (intro hgd; try (simp only [Bool.not_true, Bool.not_false] at hgd))) | (refine gc_Y ?_ ?_ <;> intro _) | fail)
      refine cl_Y (hgm) ?_
      rintro ⟨⟨vc, hvc⟩, ⟨vq, hvq⟩⟩ _
      refine ops_learn (rowShapeS (e := 3) (n := 1) (v := vc) (xs := gc.map dpV) (by decide) takeD) ?_
      rintro ⟨pc, cc, rfl, _, _⟩
      refine ops_learn (rowShapeS (e := 25) (n := 1) (v := vq) (xs := gq.map sqV) (by decide) takeD) ?_
      rintro ⟨pq, cq, rfl, _, _⟩
      repeat' (first | (refine go_Y ?_; intros) | (refine gs_Y ?_ ?_ <;> (intro hgd; try (simp only [Bool.not_true, Bool.not_false] at hgd))) | (refine gc_Y ?_ ?_ <;> intro _) | fail)
      refine cl_Y (cloneQ_spec (.slice pq (gq.map sqV).length cq) (row 25 1 (.slice pq (gq.map sqV).length cq) (gq.map sqV)) gq Vw.row (by omega)) ?_
      rintro ⟨vp, hvp⟩ _
      refine ops_learn (rowShapeS (e := 25) (n := 1) (v := vp) (xs := gq.map sqV) (by decide) takeD) ?_
      rintro ⟨pp, cp, rfl, _, _⟩
      have hfit := stFits_spec seq gq (.slice pv (ts.map tbV).length cv) (.slice pp (gq.map sqV).length cp) ts A (row 25 1 (.slice pp (gq.map sqV).length cp) (gq.map sqV)) hA Vw.row (by omega)
      rw [hf] at hfit
      repeat' (first | (refine go_Y ?_; intros) | (refine gs_Y ?_ ?_ <;> (intro hgd; try (simp only [Bool.not_true, Bool.not_false] at hgd))) | (refine gc_Y ?_ ?_ <;> intro _) | fail)
      refine cl_Y (hfit) ?_
      intro _ _
      repeat' (first | (refine go_Y ?_; intros) | (refine gs_Y ?_ ?_ <;> (intro hgd; try (simp only [Bool.not_true, Bool.not_false] at hgd))) | (refine gc_Y ?_ ?_ <;> intro _) | fail)
      (refine rt_Y (y := (⟨.slice none 0 0, rfl⟩, ⟨.slice none 0 0, rfl⟩, ⟨.slice none 0 0, rfl⟩)) (hrs := Tryd.results21) (hv := ?_) (hφ := ?_))
      · rfl
      · trivial
    | true =>
      rw [if_pos ⟨rfl, rfl⟩]
      dsimp only
      cases hk1 : decide (gk = 1) with
      | true =>
        obtain rfl : gk = 1 := of_decide_eq_true hk1
        rw [if_pos rfl]
        have hw : IntKind.u64.wrap (arith BinOp.sub seq 1) = seq - 1 := u64_eq (x := seq - 1) (by omega) (by omega)
        refine spec_intro [] _ Tryd.func21 rfl Tryd.ntmps21 (by rfl) (fun w0 R => ?_)
        refine ok_learn (VwIn.slice (VwIn.here hA)) ?_
        rintro ⟨pv, cv, rfl⟩
        repeat' (first | (refine go_Y ?_; intros) | (refine gs_Y ?_ ?_ <;> (intro hgd; try (simp only [Bool.not_true, Bool.not_false] at hgd))) | (refine gc_Y ?_ ?_ <;> intro _) | fail)
        refine cl_Y (hck) ?_
        intro _ _
        repeat' (first | (refine go_Y ?_; intros) | (refine gs_Y ?_ ?_ <;> (intro hgd; try (simp only [Bool.not_true, Bool.not_false] at hgd))) | (refine gc_Y ?_ ?_ <;> intro _) | fail)
        refine cl_Y (hgm) ?_
        rintro ⟨⟨vc, hvc⟩, ⟨vq, hvq⟩⟩ _
        refine ops_learn (rowShapeS (e := 3) (n := 1) (v := vc) (xs := gc.map dpV) (by decide) takeD) ?_
        rintro ⟨pc, cc, rfl, _, _⟩
        refine ops_learn (rowShapeS (e := 25) (n := 1) (v := vq) (xs := gq.map sqV) (by decide) takeD) ?_
        rintro ⟨pq, cq, rfl, _, _⟩
        repeat' (first | (refine go_Y ?_; intros) | (refine gs_Y ?_ ?_ <;> (intro hgd; try (simp only [Bool.not_true, Bool.not_false] at hgd))) | (refine gc_Y ?_ ?_ <;> intro _) | fail)
        rename_i b9
        refine cl_Y (cloneQ_spec (.slice pq (gq.map sqV).length cq) (row 25 1 (.slice pq (gq.map sqV).length cq) (gq.map sqV)) gq Vw.row (by omega)) ?_
        rintro ⟨vp, hvp⟩ _
        refine ops_learn (rowShapeS (e := 25) (n := 1) (v := vp) (xs := gq.map sqV) (by decide) takeD) ?_
        rintro ⟨pp, cp, rfl, _, _⟩
        have hfit := stFits_spec seq gq (.slice pv (ts.map tbV).length cv) (.slice pp (gq.map sqV).length cp) ts A (row 25 1 (.slice pp (gq.map sqV).length cp) (gq.map sqV)) hA Vw.row (by omega)
        rw [hf] at hfit
        repeat' (first | (refine go_Y ?_; intros) | (refine gs_Y ?_ ?_ <;> (intro hgd; try (simp only [Bool.not_true, Bool.not_false] at hgd))) | (refine gc_Y ?_ ?_ <;> intro _) | fail)
        rename_i b11
        refine cl_Y (hfit) ?_
        intro _ _
        repeat' (first | (refine go_Y ?_; intros) | (refine gs_Y ?_ ?_ <;> (intro hgd; try (simp only [Bool.not_true, Bool.not_false] at hgd))) | (refine gc_Y ?_ ?_ <;> intro _) | fail)
        rw [hw]
        refine ok_drawL (cv := []) [2] ([pts b11 (.cells [.int .u64 (seq - 1), .slice pp (gq.map sqV).length cp].toArray 28), pts b9 (.cells [.int .u8 1, .int .u64 gt, .slice pc (gc.map dpV).length cc, .slice pq (gq.map sqV).length cq].toArray 59)]) (takeD) (by kernel_rfl) rfl (by decide +kernel) ?_
        repeat' (first | (refine go_Y ?_; intros) | (refine gs_Y ?_ ?_ <;> (intro hgd; try (simp only [Bool.not_true, Bool.not_false] at hgd))) | (refine gc_Y ?_ ?_ <;> intro _) | fail)
        (refine rt_Y (y := (⟨_, hvp⟩, ⟨_, hvc⟩, ⟨_, hvq⟩)) (hrs := Tryd.results21) (hv := ?_) (hφ := ?_))
        · rfl
        · trivial
      | false =>
        rw [if_neg (of_decide_eq_false hk1)]
        refine spec_intro [] _ Tryd.func21 rfl Tryd.ntmps21 (by rfl) (fun w0 R => ?_)
        refine ok_learn (VwIn.slice (VwIn.here hA)) ?_
        rintro ⟨pv, cv, rfl⟩
        repeat' (first | (refine go_Y ?_; intros) | (refine gs_Y ?_ ?_ <;> (intro hgd; try (simp only [Bool.not_true, Bool.not_false] at hgd))) | (refine gc_Y ?_ ?_ <;> intro _) | fail)
        refine cl_Y (hck) ?_
        intro _ _
        repeat' (first | (refine go_Y ?_; intros) | (refine gs_Y ?_ ?_ <;> (intro hgd; try (simp only [Bool.not_true, Bool.not_false] at hgd))) | (refine gc_Y ?_ ?_ <;> intro _) | fail)
        refine cl_Y (hgm) ?_
        rintro ⟨⟨vc, hvc⟩, ⟨vq, hvq⟩⟩ _
        refine ops_learn (rowShapeS (e := 3) (n := 1) (v := vc) (xs := gc.map dpV) (by decide) takeD) ?_
        rintro ⟨pc, cc, rfl, _, _⟩
        refine ops_learn (rowShapeS (e := 25) (n := 1) (v := vq) (xs := gq.map sqV) (by decide) takeD) ?_
        rintro ⟨pq, cq, rfl, _, _⟩
        repeat' (first | (refine go_Y ?_; intros) | (refine gs_Y ?_ ?_ <;> (intro hgd; try (simp only [Bool.not_true, Bool.not_false] at hgd))) | (refine gc_Y ?_ ?_ <;> intro _) | fail)
        rename_i b9
        refine cl_Y (cloneQ_spec (.slice pq (gq.map sqV).length cq) (row 25 1 (.slice pq (gq.map sqV).length cq) (gq.map sqV)) gq Vw.row (by omega)) ?_
        rintro ⟨vp, hvp⟩ _
        refine ops_learn (rowShapeS (e := 25) (n := 1) (v := vp) (xs := gq.map sqV) (by decide) takeD) ?_
        rintro ⟨pp, cp, rfl, _, _⟩
        have hfit := stFits_spec seq gq (.slice pv (ts.map tbV).length cv) (.slice pp (gq.map sqV).length cp) ts A (row 25 1 (.slice pp (gq.map sqV).length cp) (gq.map sqV)) hA Vw.row (by omega)
        rw [hf] at hfit
        repeat' (first | (refine go_Y ?_; intros) | (refine gs_Y ?_ ?_ <;> (intro hgd; try (simp only [Bool.not_true, Bool.not_false] at hgd))) | (refine gc_Y ?_ ?_ <;> intro _) | fail)
        rename_i b11
        refine cl_Y (hfit) ?_
        intro _ _
        repeat' (first | (refine go_Y ?_; intros) | (refine gs_Y ?_ ?_ <;> (intro hgd; try (simp only [Bool.not_true, Bool.not_false] at hgd))) | (refine gc_Y ?_ ?_ <;> intro _) | fail)
        refine ok_drawL (cv := []) [2] ([pts b11 (.cells [.int .u64 seq, .slice pp (gq.map sqV).length cp].toArray 28), pts b9 (.cells [.int .u8 gk, .int .u64 gt, .slice pc (gc.map dpV).length cc, .slice pq (gq.map sqV).length cq].toArray 59)]) (takeD) (by kernel_rfl) rfl (by decide +kernel) ?_
        repeat' (first | (refine go_Y ?_; intros) | (refine gs_Y ?_ ?_ <;> (intro hgd; try (simp only [Bool.not_true, Bool.not_false] at hgd))) | (refine gc_Y ?_ ?_ <;> intro _) | fail)
        (refine rt_Y (y := (⟨_, hvp⟩, ⟨_, hvc⟩, ⟨_, hvq⟩)) (hrs := Tryd.results21) (hv := ?_) (hφ := ?_))
        · rfl
        · trivial
  · obtain ⟨rfl, rfl, rfl, rfl⟩ := Mk.mk.inj hm0
    rw [if_neg (by intro e; cases e.1)]
    dsimp only [mk0, List.map_nil] at hgm ⊢
    refine spec_intro [] _ Tryd.func21 rfl Tryd.ntmps21 (by rfl) (fun w0 R => ?_)
    refine ok_learn (VwIn.slice (VwIn.here hA)) ?_
    rintro ⟨pv, cv, rfl⟩
    refine ok_map (fun _ h => nilRow (e := 3) (n := 1) (nilRow (e := 25) (n := 1) (nilRow (e := 25) (n := 1) h))) ?_
    repeat' (first | (refine go_Y ?_; intros) | (refine gs_Y ?_ ?_ <;> (intro hgd; try (simp only [Bool.not_true, Bool.not_false] at hgd))) | (refine gc_Y ?_ ?_ <;> intro _) | fail)
    refine cl_Y (hck) ?_
    intro _ _
    repeat' (first | (refine go_Y ?_; intros) | (refine gs_Y ?_ ?_ <;> (intro hgd; try (simp only [Bool.not_true, Bool.not_false] at hgd))) | (refine gc_Y ?_ ?_ <;> intro _) | fail)
    refine cl_Y (hgm) ?_
    rintro ⟨⟨vc, hvc⟩, ⟨vq, hvq⟩⟩ _
    refine ops_learn (rowShapeS (e := 3) (n := 1) (v := vc) (xs := []) (by decide) takeD) ?_
    rintro ⟨pc, cc, rfl, _, _⟩
    refine ops_learn (rowShapeS (e := 25) (n := 1) (v := vq) (xs := []) (by decide) takeD) ?_
    rintro ⟨pq, cq, rfl, _, _⟩
    repeat' (first | (refine go_Y ?_; intros) | (refine gs_Y ?_ ?_ <;> (intro hgd; try (simp only [Bool.not_true, Bool.not_false] at hgd))) | (refine gc_Y ?_ ?_ <;> intro _) | fail)
    refine cl_Y (cloneQ_spec (.slice pq 0 cq) (row 25 1 (.slice pq 0 cq) []) [] Vw.row (by decide)) ?_
    rintro ⟨vp, hvp⟩ _
    refine ops_learn (rowShapeS (e := 25) (n := 1) (v := vp) (xs := []) (by decide) takeD) ?_
    rintro ⟨pp, cp, rfl, _, _⟩
    repeat' (first | (refine go_Y ?_; intros) | (refine gs_Y ?_ ?_ <;> (intro hgd; try (simp only [Bool.not_true, Bool.not_false] at hgd))) | (refine gc_Y ?_ ?_ <;> intro _) | fail)
    (refine rt_Y (y := (⟨.slice none 0 0, rfl⟩, ⟨.slice none 0 0, rfl⟩, ⟨.slice none 0 0, rfl⟩)) (hrs := Tryd.results21) (hv := ?_) (hφ := ?_))
    · rfl
    · trivial
end Go.Proofs.YtphaegcoldpclaaDoor
