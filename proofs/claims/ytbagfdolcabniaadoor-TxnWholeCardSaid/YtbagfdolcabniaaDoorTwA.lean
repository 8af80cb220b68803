/- The law TxnWhole (layer 15). -/
import Derived.Test.YtbagfdolcabniaaDoorSvI
import Derived.Test.YtbagfdolcabniaaDoorTgA
-- @DEFS Y
set_option linter.unusedSimpArgs false
set_option linter.unusedVariables false
set_option maxRecDepth 100000
set_option pp.deepTerms true
set_option pp.maxSteps 200000
namespace Go.Proofs.YtbagfdolcabniaaDoor
open Go Go.Fx Go.Proofs Go.Pl

abbrev Lm := V1s × List Om
def lmV (x : Lm) : List Value := [x.1.1]
def blV (x : Bool) : List Value := [.bool x]
theorem doT_cases {x : Tx} (hov : x.over = false) (o : Opr) : ((x.doT o).2 ≠ 0 ∧ (x.doT o).1 = x) ∨ ((x.doT o).2 = 0 ∧ (x.doT o).1.own = (x.own.doOp o).1 ∧ (x.doT o).1.redo = x.redo ++ [o] ∧ (x.doT o).1.over = false ∧ (x.doT o).1.t0 = x.t0) := by
  unfold Tx.doT
  rw [hov, if_neg (by simp)]
  split
  · exact .inl ⟨by simp, rfl⟩
  · split
    · rename_i h; exact .inl ⟨h, rfl⟩
    · exact .inr ⟨rfl, rfl, rfl, rfl, rfl⟩
theorem doOp_wf {r : Rl} (h : Rl.Wf r) {o : Opr} (hw : ∀ v ∈ o.row, v.wf) : Rl.Wf (r.doOp o).1 := by
  rcases doOp_did r o with ⟨_, e, _⟩ | ⟨_, p, d⟩
  · rw [e]; exact h
  · intro x hx
    rcases d.kind with ⟨_, _, e, _⟩ | ⟨_, _, e, _⟩ | ⟨_, _, e, _⟩
    · rw [e] at hx
      rcases aput_mem _ _ _ x hx with rfl | hx
      · exact hw
      · exact h x hx
    · rw [e] at hx
      rcases aput_mem _ _ _ x hx with rfl | hx
      · exact hw
      · exact h x hx
    · rw [e] at hx
      exact h x (adel_sub _ _ x hx)
theorem play_s {r : Rl} : ∀ (l : List Opr), (r.play l).s = r.s
  | [] => rfl
  | o :: l => by
    have := play_s (r := (r.doOp o).1) l
    rw [doOp_s] at this
    exact this
theorem new_whole {s : Sc} : Rl.whole ⟨s, [], 0⟩ = true := rfl
theorem new_wf {s : Sc} : Rl.Wf ⟨s, [], 0⟩ := fun x hx => by simp at hx
/-- The state that a round of TxnWhole begins with. -/
abbrev GW (ts : List Tb) (P1 : HProp) := { x : Rl × HProp // x.1.Ok ∧ Rl.Wf x.1 ∧ x.1.s = ts.map Tb.c ∧ x.1.whole = true ∧ Ext P1 x.2 }
abbrev GX (r : Rl) (P1 : HProp) := { g : Tx × HProp // g.1.Ok ∧ g.1.over = false ∧ g.1.t0 = r.turns ∧ g.1.own = r.play g.1.redo ∧ Rl.Wf g.1.own ∧ Ext P1 g.2 }
abbrev GE (P1 : HProp) := { Q : HProp // Ext P1 Q }
set_option maxHeartbeats 8000000 in
theorem TxnWhole_spec (vs vl vc : Value) (ts : List Tb) (ls : List Lm) (bs : List Bool) (A : HProp) (hU : UT A) (hvc : vs.oneCell' = true) (h : SVr A vs ts) (hl : Vw A 1 vl (ls.map lmV)) (hll : ls.length ≤ 140737488355328) (hls : ∀ x ∈ ls, OsR A x.1.1 x.2)
    (hb : Vw A 1 vc (bs.map blV)) (hbl : bs.length ≤ 140737488355328) (hw : ∀ x ∈ ls, ∀ q ∈ x.2, ∀ v ∈ q.row, v.wf) :
    FSpec Tryd.prog 9 [.agg #[vs], vl, vc] [A] HProp (fun P' => Ext A P') (fun _ => .bool true) (fun P' => [P']) := by
  have htl := h.sv0.len
  have lml : (ls.map lmV).length = ls.length := by simp
  have lmb : (bs.map blV).length = bs.length := by simp
  have lt : (ts.map tbV).length = ts.length := by simp
  refine spec_intro [] _ Tryd.func9 rfl Tryd.ntmps9 (by rfl) (fun w0 R => ?_)
  refine ok_learn (VwIn.slice (VwIn.here hl)) ?_
  rintro ⟨pv, cv, rfl⟩
  refine ok_learn (VwIn.slice (VwIn.here hb)) ?_
  rintro ⟨pb, cb, rfl⟩
  refine ok_learn (VwIn.slice (VwIn.here h.vw)) ?_
  rintro ⟨ps, cs, rfl⟩
  repeat' (first | (refine go_Y ?_; intros) | (refine gs_Y ?_ ?_ <;> (intro hgd; try (simp only [Bool.not_true, Bool.not_false] at hgd))) | (refine gc_Y ?_ ?_ <;> intro _) | fail)
  rename_i b1
  refine ok_map (L' := [A, pts b1 (.cells [.slice ps (ts.map tbV).length cs].toArray 24)] ++ R) entD ?_
  refine ok_loop' (γ := Nat × Nat) (fun g ρ L => g.1 ≤ ls.length ∧ g.1 ≤ 100 ∧ (∀ x ∈ ls.take g.1, smallS ts ∧ smallO x.2) ∧ g.2 ≤ g.1 * 300 ∧ Knows ρ [(1, .slice pv (ls.map lmV).length cv), (2, .slice pb (bs.map blV).length cb), (3, .pointer (some ⟨b1, 0, none⟩)), (7, .int .i64 (g.2 : Int)), (8, .int .i64 g.1)] ∧ L = [A, pts b1 (.cells [.slice ps (ts.map tbV).length cs].toArray 24)] ++ R) (fun g => ls.length - g.1) (0, 0)
    ⟨by omega, by omega, fun _ h => by simp at h, by simp, ⟨rfl, rfl, rfl, rfl, rfl, trivial⟩, rfl⟩ ?_
  rintro ⟨i, n⟩ ρ L ⟨hi, hi1, hall, hn, hk, rfl⟩
  dsimp only at hi hi1 hall hn hk ⊢
  refine ok_regs hk ?_
  cases t1 : decide ((i : Int) < ((ls.map lmV).length : Int)) with
  | true =>
    have h0 : i < ls.length := by have := of_decide_eq_true t1; omega
    cases t2 : decide ((i : Int) < 100) with
    | true =>
      have h100 : i < 100 := by have := of_decide_eq_true t2; omega
      have hti : ls[i]? = some ls[i] := List.getElem?_eq_getElem h0
      have hx : (ls.map lmV)[i]? = some (lmV ls[i]) := by rw [List.getElem?_map, hti]; rfl
      have hnn : i < (ls.map lmV).length := by omega
      have htk : ls.take (i + 1) = ls.take i ++ [ls[i]] := List.take_succ_eq_append_getElem h0
      have hos := hls _ (List.getElem_mem h0)
      refine ok_learn (VwIn.base (VwIn.here hl) (by intro e; rw [e] at hnn; simp at hnn)) ?_
      rintro ⟨bu, ou, rfl⟩
      generalize ls[i] = x at hx htk hos
      obtain ⟨⟨xv, hxv⟩, xo⟩ := x
      dsimp only [lmV] at hx hos
      have hxl : (xo.map opV).length = xo.length := by simp
      refine ok_learn (VwIn.slice (VwIn.here hos.vw)) ?_
      rintro ⟨px, cx, rfl⟩
      have hhv := heavy14_spec (.slice ps (ts.map tbV).length cs) (.slice px (xo.map opV).length cx) ts xo A h hos
      repeat' (first | (refine go_Y ?_; intros) | (refine gs_Y ?_ ?_ <;> (intro hgd; try (simp only [Bool.not_true, Bool.not_false] at hgd))) | (refine gc_Y ?_ ?_ <;> intro _) | fail)
      refine cl_Y (hhv) ?_
      intro y hy
      cases y with
      | true =>
        repeat' (first | (refine go_Y ?_; intros) | (refine gs_Y ?_ ?_ <;> (intro hgd; try (simp only [Bool.not_true, Bool.not_false] at hgd))) | (refine gc_Y ?_ ?_ <;> intro _) | fail)
        refine cl_Y (alive15_spec A hU) ?_
        intro P' hE
        repeat' (first | (refine go_Y ?_; intros) | (refine gs_Y ?_ ?_ <;> (intro hgd; try (simp only [Bool.not_true, Bool.not_false] at hgd))) | (refine gc_Y ?_ ?_ <;> intro _) | fail)
        (refine rt_Y (y := P') (hrs := Tryd.results9) (hv := ?_) (hφ := ?_))
        · rfl
        · exact hE
      | false =>
        have hsm := hy rfl
        have hox := hsm.2.1
        have hvl := hos.vw
        repeat' (first | (refine go_Y ?_; intros) | (refine gs_Y ?_ ?_ <;> (intro hgd; try (simp only [Bool.not_true, Bool.not_false] at hgd))) | (refine gc_Y ?_ ?_ <;> intro _) | fail)
        refine cont_map (L' := [A, pts b1 (.cells [.slice ps (ts.map tbV).length cs].toArray 24)] ++ R) entD ?_
        refine cont_back (i + 1, n + xo.length) ⟨h0, by dsimp only; omega, fun q hq => by
          rw [htk] at hq
          rcases List.mem_append.1 hq with hq | hq
          · exact hall q hq
          · rw [List.mem_singleton] at hq; subst hq; exact hsm, by dsimp only; rw [Nat.succ_mul]; omega, ⟨rfl, rfl, rfl, by show Value.int .i64 ((n : Int) + ((xo.map opV).length : Int)) = _; rw [hxl]; simp, rfl, trivial⟩, rfl⟩ (by show ls.length - (i + 1) < ls.length - i; omega)
    | false =>
      have u1 : decide ((60 : Int) < ((ls.map lmV).length : Int)) = true := by have := of_decide_eq_false t2; simp only [decide_eq_true_eq]; omega
      cases hck : checkS (ts.map Tb.c) with
      | false =>
        repeat' (first | (refine go_Y ?_; intros) | (refine gs_Y ?_ ?_ <;> (intro hgd; try (simp only [Bool.not_true, Bool.not_false] at hgd))) | (refine gc_Y ?_ ?_ <;> intro _) | fail)
        refine cl_Y (new_bad (.slice ps (ts.map tbV).length cs) ts A h.sv0 hck) ?_
        intro _ _
        repeat' (first | (refine go_Y ?_; intros) | (refine gs_Y ?_ ?_ <;> (intro hgd; try (simp only [Bool.not_true, Bool.not_false] at hgd))) | (refine gc_Y ?_ ?_ <;> intro _) | fail)
        refine cl_Y (alive15_spec A hU) ?_
        intro P' hE'
        repeat' (first | (refine go_Y ?_; intros) | (refine gs_Y ?_ ?_ <;> (intro hgd; try (simp only [Bool.not_true, Bool.not_false] at hgd))) | (refine gc_Y ?_ ?_ <;> intro _) | fail)
        (refine rt_Y (y := P') (hrs := Tryd.results9) (hv := ?_) (hφ := ?_))
        · rfl
        · exact hE'
      | true =>
        repeat' (first | (refine go_Y ?_; intros) | (refine gs_Y ?_ ?_ <;> (intro hgd; try (simp only [Bool.not_true, Bool.not_false] at hgd))) | (refine gc_Y ?_ ?_ <;> intro _) | fail)
        refine cl_Y (new_spec (.slice ps (ts.map tbV).length cs) ts A h.sv0 hck) ?_
        rintro ⟨b, P1⟩ hE1
        dsimp only at hE1 ⊢
        repeat' (first | (refine go_Y ?_; intros) | (refine gs_Y ?_ ?_ <;> (intro hgd; try (simp only [Bool.not_true, Bool.not_false] at hgd))) | (refine gc_Y ?_ ?_ <;> intro _) | fail)
        refine cl_Y (alive15_spec P1 (hU.ext hE1)) ?_
        intro P' hE'
        repeat' (first | (refine go_Y ?_; intros) | (refine gs_Y ?_ ?_ <;> (intro hgd; try (simp only [Bool.not_true, Bool.not_false] at hgd))) | (refine gc_Y ?_ ?_ <;> intro _) | fail)
        (refine rt_Y (y := P') (hrs := Tryd.results9) (hv := ?_) (hφ := ?_))
        · rfl
        · exact hE1.trans hE'
  | false =>
    have hie : i = ls.length := by have := of_decide_eq_false t1; omega
    subst hie
    rw [List.take_length] at hall
    cases u1 : decide ((60 : Int) < ((ls.map lmV).length : Int)) with
    | true =>
      cases hck : checkS (ts.map Tb.c) with
      | false =>
        repeat' (first | (refine go_Y ?_; intros) | (refine gs_Y ?_ ?_ <;> (intro hgd; try (simp only [Bool.not_true, Bool.not_false] at hgd))) | (refine gc_Y ?_ ?_ <;> intro _) | fail)
        refine cl_Y (new_bad (.slice ps (ts.map tbV).length cs) ts A h.sv0 hck) ?_
        intro _ _
        repeat' (first | (refine go_Y ?_; intros) | (refine gs_Y ?_ ?_ <;> (intro hgd; try (simp only [Bool.not_true, Bool.not_false] at hgd))) | (refine gc_Y ?_ ?_ <;> intro _) | fail)
        refine cl_Y (alive15_spec A hU) ?_
        intro P' hE'
        repeat' (first | (refine go_Y ?_; intros) | (refine gs_Y ?_ ?_ <;> (intro hgd; try (simp only [Bool.not_true, Bool.not_false] at hgd))) | (refine gc_Y ?_ ?_ <;> intro _) | fail)
        (refine rt_Y (y := P') (hrs := Tryd.results9) (hv := ?_) (hφ := ?_))
        · rfl
        · exact hE'
      | true =>
        repeat' (first | (refine go_Y ?_; intros) | (refine gs_Y ?_ ?_ <;> (intro hgd; try (simp only [Bool.not_true, Bool.not_false] at hgd))) | (refine gc_Y ?_ ?_ <;> intro _) | fail)
        refine cl_Y (new_spec (.slice ps (ts.map tbV).length cs) ts A h.sv0 hck) ?_
        rintro ⟨b, P1⟩ hE1
        dsimp only at hE1 ⊢
        repeat' (first | (refine go_Y ?_; intros) | (refine gs_Y ?_ ?_ <;> (intro hgd; try (simp only [Bool.not_true, Bool.not_false] at hgd))) | (refine gc_Y ?_ ?_ <;> intro _) | fail)
        refine cl_Y (alive15_spec P1 (hU.ext hE1)) ?_
        intro P' hE'
        repeat' (first | (refine go_Y ?_; intros) | (refine gs_Y ?_ ?_ <;> (intro hgd; try (simp only [Bool.not_true, Bool.not_false] at hgd))) | (refine gc_Y ?_ ?_ <;> intro _) | fail)
        (refine rt_Y (y := P') (hrs := Tryd.results9) (hv := ?_) (hφ := ?_))
        · rfl
        · exact hE1.trans hE'
    | false =>
      cases u2 : decide ((400 : Int) < (n : Int)) with
      | true =>
        cases hck : checkS (ts.map Tb.c) with
        | false =>
          repeat' (first | (refine go_Y ?_; intros) | (refine gs_Y ?_ ?_ <;> (intro hgd; try (simp only [Bool.not_true, Bool.not_false] at hgd))) | (refine gc_Y ?_ ?_ <;> intro _) | fail)
          refine cl_Y (new_bad (.slice ps (ts.map tbV).length cs) ts A h.sv0 hck) ?_
          intro _ _
          repeat' (first | (refine go_Y ?_; intros) | (refine gs_Y ?_ ?_ <;> (intro hgd; try (simp only [Bool.not_true, Bool.not_false] at hgd))) | (refine gc_Y ?_ ?_ <;> intro _) | fail)
          refine cl_Y (alive15_spec A hU) ?_
          intro P' hE'
          repeat' (first | (refine go_Y ?_; intros) | (refine gs_Y ?_ ?_ <;> (intro hgd; try (simp only [Bool.not_true, Bool.not_false] at hgd))) | (refine gc_Y ?_ ?_ <;> intro _) | fail)
          (refine rt_Y (y := P') (hrs := Tryd.results9) (hv := ?_) (hφ := ?_))
          · rfl
          · exact hE'
        | true =>
          repeat' (first | (refine go_Y ?_; intros) | (refine gs_Y ?_ ?_ <;> (intro hgd; try (simp only [Bool.not_true, Bool.not_false] at hgd))) | (refine gc_Y ?_ ?_ <;> intro _) | fail)
          refine cl_Y (new_spec (.slice ps (ts.map tbV).length cs) ts A h.sv0 hck) ?_
          rintro ⟨b, P1⟩ hE1
          dsimp only at hE1 ⊢
          repeat' (first | (refine go_Y ?_; intros) | (refine gs_Y ?_ ?_ <;> (intro hgd; try (simp only [Bool.not_true, Bool.not_false] at hgd))) | (refine gc_Y ?_ ?_ <;> intro _) | fail)
          refine cl_Y (alive15_spec P1 (hU.ext hE1)) ?_
          intro P' hE'
          repeat' (first | (refine go_Y ?_; intros) | (refine gs_Y ?_ ?_ <;> (intro hgd; try (simp only [Bool.not_true, Bool.not_false] at hgd))) | (refine gc_Y ?_ ?_ <;> intro _) | fail)
          (refine rt_Y (y := P') (hrs := Tryd.results9) (hv := ?_) (hφ := ?_))
          · rfl
          · exact hE1.trans hE'
      | false =>
        cases hck : checkS (ts.map Tb.c) with
        | false =>
          repeat' (first | (refine go_Y ?_; intros) | (refine gs_Y ?_ ?_ <;> (intro hgd; try (simp only [Bool.not_true, Bool.not_false] at hgd))) | (refine gc_Y ?_ ?_ <;> intro _) | fail)
          refine cl_Y (new_bad (.slice ps (ts.map tbV).length cs) ts A h.sv0 hck) ?_
          intro _ _
          repeat' (first | (refine go_Y ?_; intros) | (refine gs_Y ?_ ?_ <;> (intro hgd; try (simp only [Bool.not_true, Bool.not_false] at hgd))) | (refine gc_Y ?_ ?_ <;> intro _) | fail)
          refine cl_Y (alive15_spec A hU) ?_
          intro P' hE'
          repeat' (first | (refine go_Y ?_; intros) | (refine gs_Y ?_ ?_ <;> (intro hgd; try (simp only [Bool.not_true, Bool.not_false] at hgd))) | (refine gc_Y ?_ ?_ <;> intro _) | fail)
          (refine rt_Y (y := P') (hrs := Tryd.results9) (hv := ?_) (hφ := ?_))
          · rfl
          · exact hE'
        | true =>
          repeat' (first | (refine go_Y ?_; intros) | (refine gs_Y ?_ ?_ <;> (intro hgd; try (simp only [Bool.not_true, Bool.not_false] at hgd))) | (refine gc_Y ?_ ?_ <;> intro _) | fail)
          refine cl_Y (new_spec (.slice ps (ts.map tbV).length cs) ts A h.sv0 hck) ?_
          rintro ⟨b, P1⟩ hE1
          dsimp only at hE1 ⊢
          have e0 : (!decide ((0 : Int) = (0 : Int))) = false := by decide
          have e1 : decide ((0 : Int) = (0 : Int)) = true := by decide
          repeat' (first | (refine go_Y ?_; intros) | (refine gs_Y ?_ ?_ <;> (intro hgd; try (simp only [Bool.not_true, Bool.not_false] at hgd))) | (refine gc_Y ?_ ?_ <;> intro _) | fail)
          refine ok_map (L' := [relP P1 b ⟨ts.map Tb.c, [], 0⟩, P1, pts b1 (.cells [.slice ps (ts.map tbV).length cs].toArray 24)] ++ R) entD ?_
          refine ok_loop' (γ := Nat × GW ts P1) (fun g ρ L => g.1 ≤ ls.length ∧ Knows ρ [(1, .slice pv (ls.map lmV).length cv), (2, .slice pb (bs.map blV).length cb), (3, .pointer (some ⟨b1, 0, none⟩)), (9, .pointer (some ⟨b, 0, none⟩)), (11, .int .i64 g.1)] ∧ L = [relP g.2.1.2 b g.2.1.1, g.2.1.2, pts b1 (.cells [.slice ps (ts.map tbV).length cs].toArray 24)] ++ R) (fun g => ls.length - g.1)
            (0, ⟨(⟨ts.map Tb.c, [], 0⟩, P1), Rl.Ok.new hck, new_wf, rfl, new_whole, Ext.refl P1⟩) ⟨by simp, ⟨rfl, rfl, rfl, rfl, rfl, trivial⟩, rfl⟩ ?_
          rintro ⟨j, ⟨r, P⟩, hok, hwf, hrs, hwh, hE⟩ ρ L ⟨hj, hk, rfl⟩
          dsimp only at hok hwf hrs hwh hE hj hk ⊢
          refine ok_regs hk ?_
          have hEA := hE1.trans hE
          have hUP := hU.ext hEA
          cases t2 : decide ((j : Int) < ((ls.map lmV).length : Int)) with
          | false =>
            repeat' (first | (refine go_Y ?_; intros) | (refine gs_Y ?_ ?_ <;> (intro hgd; try (simp only [Bool.not_true, Bool.not_false] at hgd))) | (refine gc_Y ?_ ?_ <;> intro _) | fail)
            refine cl_Y (alive15_spec P hUP) ?_
            intro P' hE'
            repeat' (first | (refine go_Y ?_; intros) | (refine gs_Y ?_ ?_ <;> (intro hgd; try (simp only [Bool.not_true, Bool.not_false] at hgd))) | (refine gc_Y ?_ ?_ <;> intro _) | fail)
            (refine rt_Y (y := P') (hrs := Tryd.results9) (hv := ?_) (hφ := ?_))
            · rfl
            · exact hEA.trans hE'
          | true =>
            have h0 : j < ls.length := by have := of_decide_eq_true t2; omega
            have hti : ls[j]? = some ls[j] := List.getElem?_eq_getElem h0
            have hx : (ls.map lmV)[j]? = some (lmV ls[j]) := by rw [List.getElem?_map, hti]; rfl
            have hnn : j < (ls.map lmV).length := by omega
            have hmm := List.getElem_mem h0
            have hos := hls _ hmm
            have hsm := (hall _ hmm).2
            have hwo := hw _ hmm
            have hvP := hEA.vw hl
            refine ok_learn (VwIn.base (VwIn.there (VwIn.here hvP)) (by intro e; rw [e] at hnn; simp at hnn)) ?_
            rintro ⟨bu, ou, rfl⟩
            generalize ls[j] = x at hx hos hsm hwo
            obtain ⟨⟨xv, hxv⟩, xo⟩ := x
            dsimp only [lmV] at hx hos hsm hwo
            have hxl : (xo.map opV).length = xo.length := by simp
            have hxm := hsm.1
            have hxP := hEA.vw hos.vw
            refine ok_learn (VwIn.slice (VwIn.there (VwIn.here hxP))) ?_
            rintro ⟨px, cx, rfl⟩
            have hopP : ∀ o ∈ xo, Vw P 4 o.rv.1 (o.row.map valV) := fun o hq => hEA.vw (hos.op o hq).vw
            have hbP := hEA.vw hb
            repeat' (first | (refine go_Y ?_; intros) | (refine gs_Y ?_ ?_ <;> (intro hgd; try (simp only [Bool.not_true, Bool.not_false] at hgd))) | (refine gc_Y ?_ ?_ <;> intro _) | fail)
            refine cl_Y (relCopy_spec b r P) ?_
            intro bw _
            repeat' (first | (refine go_Y ?_; intros) | (refine gs_Y ?_ ?_ <;> (intro hgd; try (simp only [Bool.not_true, Bool.not_false] at hgd))) | (refine gc_Y ?_ ?_ <;> intro _) | fail)
            refine cl_Y (relCopy_spec b r P) ?_
            intro bnx _
            repeat' (first | (refine go_Y ?_; intros) | (refine gs_Y ?_ ?_ <;> (intro hgd; try (simp only [Bool.not_true, Bool.not_false] at hgd))) | (refine gc_Y ?_ ?_ <;> intro _) | fail)
            refine cl_Y (txNew_spec b r P) ?_
            intro bt _
            repeat' (first | (refine go_Y ?_; intros) | (refine gs_Y ?_ ?_ <;> (intro hgd; try (simp only [Bool.not_true, Bool.not_false] at hgd))) | (refine gc_Y ?_ ?_ <;> intro _) | fail)
            refine ok_map (L' := [relP P b r, relP P bw r, relP P bnx (⟨r, r.turns, [], [], false⟩ : Tx).own, txP P bt b (⟨r, r.turns, [], [], false⟩ : Tx), P, pts b1 (.cells [.slice ps (ts.map tbV).length cs].toArray 24)] ++ R) entD ?_
            refine ok_loop' (γ := Nat × GX r P) (fun g ρ L => g.1 ≤ xo.length ∧ Knows ρ [(1, .slice (some ⟨bu, ou, none⟩) (ls.map lmV).length cv), (2, .slice pb (bs.map blV).length cb), (3, .pointer (some ⟨b1, 0, none⟩)), (9, .pointer (some ⟨b, 0, none⟩)), (11, .int .i64 j), (12, .pointer (some ⟨bw, 0, none⟩)), (13, .pointer (some ⟨bnx, 0, none⟩)), (14, .pointer (some ⟨bt, 0, none⟩)), (16, .int .i64 g.1)] ∧ L = [relP g.2.1.2 b r, relP g.2.1.2 bw r, relP g.2.1.2 bnx g.2.1.1.own, txP g.2.1.2 bt b g.2.1.1, g.2.1.2, pts b1 (.cells [.slice ps (ts.map tbV).length cs].toArray 24)] ++ R) (fun g => xo.length - g.1)
              (0, ⟨(⟨r, r.turns, [], [], false⟩, P), tx_new_ok hok, rfl, rfl, rfl, hwf, Ext.refl P⟩) ⟨by simp, ⟨rfl, rfl, rfl, rfl, rfl, rfl, rfl, rfl, rfl, trivial⟩, rfl⟩ ?_
            rintro ⟨k, ⟨x, Q⟩, hxo, hov, ht0, hown, hxw, hEQ⟩ ρ L ⟨hk1, hk, rfl⟩
            dsimp only at hxo hov ht0 hown hxw hEQ hk1 hk ⊢
            refine ok_regs hk ?_
            have hUQ := hUP.ext hEQ
            have hvQ := hEQ.vw hvP
            have hxQ := hEQ.vw hxP
            cases t3 : decide ((k : Int) < ((xo.map opV).length : Int)) with
            | true =>
              have h1 : k < xo.length := by have := of_decide_eq_true t3; omega
              have hyi : xo[k]? = some xo[k] := List.getElem?_eq_getElem h1
              have hy : (xo.map opV)[k]? = some (opV xo[k]) := by rw [List.getElem?_map, hyi]; rfl
              have hnk : k < (xo.map opV).length := by omega
              have hmk := List.getElem_mem h1
              have hvw := hEQ.vw (hopP _ hmk)
              have hwq := hwo _ hmk
              have hqn := hsm.2 _ hmk
              refine ok_learn (VwIn.base (VwIn.there (VwIn.there (VwIn.there (VwIn.there (VwIn.here hxQ))))) (by intro e; rw [e] at hnk; simp at hnk)) ?_
              rintro ⟨bx, ox, rfl⟩
              generalize xo[k] = q at hy hvw hwq hqn
              obtain ⟨qk, qt, ⟨qv, hqv⟩, qrow⟩ := q
              dsimp only [opV] at hy hvw hwq hqn
              have hql : qrow.length ≤ 1000000 := by omega
              have htd := txDo_spec bt b x ⟨qk, qt, qrow⟩ qv Q hxo hUQ hvw hqv hwq hql
              have hxo' := Tx.Ok.doT hxo (o := ⟨qk, qt, qrow⟩) hql hwq
              rcases doT_cases hov ⟨qk, qt, qrow⟩ with ⟨he, hs⟩ | ⟨he, o1, o2, o3, o4⟩
              · rw [hs] at htd hxo'
                generalize (x.doT ⟨qk, qt, qrow⟩).2 = e at htd he
                have f1 : decide (e = (0 : Int)) = false := by simp [he]
                repeat' (first | (refine go_Y ?_; intros) | (refine gs_Y ?_ ?_ <;> (intro hgd; try (simp only [Bool.not_true, Bool.not_false] at hgd))) | (refine gc_Y ?_ ?_ <;> intro _) | fail)
                refine cl_Y (htd) ?_
                intro Q' hE'
                refine opsL_map (fun _ h => relP_ext (b := b) (r := r) hE' (Take.out1 takeD h)) ?_
                refine opsL_map (fun _ h => relP_ext (b := bw) (r := r) hE' (Take.out1 takeD h)) ?_
                refine opsL_map (fun _ h => relP_ext (b := bnx) (r := x.own) hE' (Take.out1 takeD h)) ?_
                repeat' (first | (refine go_Y ?_; intros) | (refine gs_Y ?_ ?_ <;> (intro hgd; try (simp only [Bool.not_true, Bool.not_false] at hgd))) | (refine gc_Y ?_ ?_ <;> intro _) | fail)
                refine cont_map (L' := [relP Q' b r, relP Q' bw r, relP Q' bnx x.own, txP Q' bt b x, Q', pts b1 (.cells [.slice ps (ts.map tbV).length cs].toArray 24)] ++ R) entD ?_
                refine cont_back (k + 1, ⟨(x, Q'), hxo', hov, ht0, hown, hxw, hEQ.trans hE'⟩) ⟨h1, ⟨rfl, rfl, rfl, rfl, rfl, rfl, rfl, rfl, rfl, trivial⟩, rfl⟩ (by show xo.length - (k + 1) < xo.length - k; omega)
              · rw [he] at htd
                have hdo := fun Q' (e : Ext Q Q') => relDo_spec bnx x.own ⟨qk, qt, qrow⟩ qv Q' hxo.own (hUQ.ext e) (e.vw hvw) hqv hwq hql
                have hw' := doOp_wf hxw (o := ⟨qk, qt, qrow⟩) hwq
                have hown' : (x.doT ⟨qk, qt, qrow⟩).1.own = r.play (x.doT ⟨qk, qt, qrow⟩).1.redo := by rw [o1, o2, Rl.play_snoc, ← hown]
                rw [← o1] at hdo hw'
                generalize (x.doT ⟨qk, qt, qrow⟩).1 = x' at htd hxo' hdo hw' hown' o3 o4
                repeat' (first | (refine go_Y ?_; intros) | (refine gs_Y ?_ ?_ <;> (intro hgd; try (simp only [Bool.not_true, Bool.not_false] at hgd))) | (refine gc_Y ?_ ?_ <;> intro _) | fail)
                refine cl_Y (htd) ?_
                intro Q' hE'
                have hvQ' := hE'.vw hvQ
                have hxQ' := hE'.vw hxQ
                refine opsL_map (fun _ h => relP_ext (b := b) (r := r) hE' (Take.out1 takeD h)) ?_
                refine opsL_map (fun _ h => relP_ext (b := bw) (r := r) hE' (Take.out1 takeD h)) ?_
                refine opsL_map (fun _ h => relP_ext (b := bnx) (r := x.own) hE' (Take.out1 takeD h)) ?_
                repeat' (first | (refine go_Y ?_; intros) | (refine gs_Y ?_ ?_ <;> (intro hgd; try (simp only [Bool.not_true, Bool.not_false] at hgd))) | (refine gc_Y ?_ ?_ <;> intro _) | fail)
                refine cl_Y (hdo Q' hE') ?_
                rintro ⟨⟨b4, hb4⟩, ⟨a4, ha4⟩, Q2⟩ ⟨hE2, _⟩
                dsimp only at hE2 ⊢
                refine opsL_map (fun _ h => relP_ext (b := b) (r := r) hE2 (Take.out1 takeD h)) ?_
                refine opsL_map (fun _ h => relP_ext (b := bw) (r := r) hE2 (Take.out1 takeD h)) ?_
                refine opsL_map (fun _ h => txP_ext (b := bt) (bn := b) (x := x') hE2 (Take.out1 takeD h)) ?_
                repeat' (first | (refine go_Y ?_; intros) | (refine gs_Y ?_ ?_ <;> (intro hgd; try (simp only [Bool.not_true, Bool.not_false] at hgd))) | (refine gc_Y ?_ ?_ <;> intro _) | fail)
                refine cont_map (L' := [relP Q2 b r, relP Q2 bw r, relP Q2 bnx x'.own, txP Q2 bt b x', Q2, pts b1 (.cells [.slice ps (ts.map tbV).length cs].toArray 24)] ++ R) entD ?_
                refine cont_back (k + 1, ⟨(x', Q2), hxo', o3, o4.trans ht0, hown', hw', (hEQ.trans hE').trans hE2⟩) ⟨h1, ⟨rfl, rfl, rfl, rfl, rfl, rfl, rfl, rfl, rfl, trivial⟩, rfl⟩ (by show xo.length - (k + 1) < xo.length - k; omega)
            | false =>
              have hbQ := hEQ.vw hbP
              cases t4 : decide ((j : Int) < ((bs.map blV).length : Int)) with
              | false =>
                have hab := txAbort_spec bt b x Q
                rw [if_neg (by rw [hov]; simp)] at hab
                repeat' (first | (refine go_Y ?_; intros) | (refine gs_Y ?_ ?_ <;> (intro hgd; try (simp only [Bool.not_true, Bool.not_false] at hgd))) | (refine gc_Y ?_ ?_ <;> intro _) | fail)
                refine cl_Y (hab) ?_
                intro _ _
                repeat' (first | (refine go_Y ?_; intros) | (refine gs_Y ?_ ?_ <;> (intro hgd; try (simp only [Bool.not_true, Bool.not_false] at hgd))) | (refine gc_Y ?_ ?_ <;> intro _) | fail)
                have hokR : (r).Ok := hok
                have hwfR : Rl.Wf (r) := hwf
                have hsR : (r).s = ts.map Tb.c := hrs
                have hwhR : (r).whole = true := hwh
                have hEX : Ext P1 Q := hE.trans hEQ
                refine ok_map (L' := [relP Q b r, relP Q bw r, Q, txP Q bt b x.abortT, pts b1 (.cells [.slice ps (ts.map tbV).length cs].toArray 24)] ++ R) entD ?_
                refine ok_loop' (γ := Nat × GE Q) (fun g ρ L => g.1 ≤ ts.length ∧ Knows ρ [(1, .slice (some ⟨bu, ou, none⟩) (ls.map lmV).length cv), (2, .slice pb (bs.map blV).length cb), (3, .pointer (some ⟨b1, 0, none⟩)), (9, .pointer (some ⟨b, 0, none⟩)), (11, .int .i64 j), (14, .pointer (some ⟨bt, 0, none⟩)), (17, .pointer (some ⟨bw, 0, none⟩)), (20, .int .i64 g.1)] ∧ L = [relP g.2.1 b r, relP g.2.1 bw r, g.2.1, txP Q bt b x.abortT, pts b1 (.cells [.slice ps (ts.map tbV).length cs].toArray 24)] ++ R) (fun g => ts.length - g.1) (0, ⟨Q, Ext.refl Q⟩) ⟨by simp, ⟨rfl, rfl, rfl, rfl, rfl, rfl, rfl, rfl, trivial⟩, rfl⟩ ?_
                rintro ⟨mm, ⟨Z, hEZ⟩⟩ ρ L ⟨hm1, hk, rfl⟩
                dsimp only at hEZ hm1 hk ⊢
                refine ok_regs hk ?_
                cases t5 : decide ((mm : Int) < ((ts.map tbV).length : Int)) with
                | true =>
                  have h5 : mm < ts.length := by have := of_decide_eq_true t5; omega
                  have hr1 := relRows_spec b (r) (mm : Int) Z hokR hwfR
                  have hr2 := fun Z' => relRows_spec bw (r) (mm : Int) Z' hokR hwfR
                  repeat' (first | (refine go_Y ?_; intros) | (refine gs_Y ?_ ?_ <;> (intro hgd; try (simp only [Bool.not_true, Bool.not_false] at hgd))) | (refine gc_Y ?_ ?_ <;> intro _) | fail)
                  refine cl_Y (hr1) ?_
                  rintro ⟨⟨va, hva⟩, la, Z1⟩ ⟨hz1, qa, oa⟩
                  dsimp only at hz1 qa oa ⊢
                  refine opsL_map (fun _ h => relP_ext (b := bw) (r := r) hz1 (Take.out1 takeD h)) ?_
                  repeat' (first | (refine go_Y ?_; intros) | (refine gs_Y ?_ ?_ <;> (intro hgd; try (simp only [Bool.not_true, Bool.not_false] at hgd))) | (refine gc_Y ?_ ?_ <;> intro _) | fail)
                  refine cl_Y (hr2 Z1) ?_
                  rintro ⟨⟨vq, hvq⟩, lb, Z2⟩ ⟨hz2, qb, ob⟩
                  dsimp only at hz2 qb ob ⊢
                  refine opsL_map (fun _ h => relP_ext (b := b) (r := r) hz2 (Take.out1 takeD h)) ?_
                  have hll1 : la.length ≤ 1000000 := by
                    have h1 := oa.perm.length_eq
                    have h2 := rowsAt_len hokR (mm : Int) (fun _ => true)
                    rw [List.length_map] at h1; omega
                  have hll2 : ∀ x ∈ la, x.2.length ≤ 1000000 := fun x hx => by
                    obtain ⟨p, hp, _⟩ := rowsAt_mem hokR (oa.perm.subset (List.mem_map_of_mem hx))
                    have := row_len hokR (aget_of_mem hokR hp)
                    omega
                  have hsa := same14_spec la lb va vq (row 26 1 va (la.map rwV)) (row 26 1 vq (lb.map rwV)) Z2 Vw.row Vw.row (fun x hx => hz2.vw (qa x hx)) qb hll1 hll2
                  rw [decide_eq_true (oa.uniq ob rfl (.refl _))] at hsa
                  repeat' (first | (refine go_Y ?_; intros) | (refine gs_Y ?_ ?_ <;> (intro hgd; try (simp only [Bool.not_true, Bool.not_false] at hgd))) | (refine gc_Y ?_ ?_ <;> intro _) | fail)
                  refine cl_Y (hsa) ?_
                  intro _ _
                  repeat' (first | (refine go_Y ?_; intros) | (refine gs_Y ?_ ?_ <;> (intro hgd; try (simp only [Bool.not_true, Bool.not_false] at hgd))) | (refine gc_Y ?_ ?_ <;> intro _) | fail)
                  refine cont_map (L' := [relP Z2 b r, relP Z2 bw r, Z2, txP Q bt b x.abortT, pts b1 (.cells [.slice ps (ts.map tbV).length cs].toArray 24)] ++ R) entD ?_
                  refine cont_back (mm + 1, ⟨Z2, (hEZ.trans hz1).trans hz2⟩) ⟨h5, ⟨rfl, rfl, rfl, rfl, rfl, rfl, rfl, rfl, trivial⟩, rfl⟩ (by show ts.length - (mm + 1) < ts.length - mm; omega)
                | false =>
                  have hwR := relWhole_spec b (r) Z hokR
                  rw [hwhR, cond_true] at hwR
                  have hov' := txOver_spec bt b x.abortT Q
                  rw [show (x.abortT).over = true from rfl] at hov'
                  repeat' (first | (refine go_Y ?_; intros) | (refine gs_Y ?_ ?_ <;> (intro hgd; try (simp only [Bool.not_true, Bool.not_false] at hgd))) | (refine gc_Y ?_ ?_ <;> intro _) | fail)
                  refine cl_Y (hov') ?_
                  intro _ _
                  repeat' (first | (refine go_Y ?_; intros) | (refine gs_Y ?_ ?_ <;> (intro hgd; try (simp only [Bool.not_true, Bool.not_false] at hgd))) | (refine gc_Y ?_ ?_ <;> intro _) | fail)
                  refine cl_Y (hwR) ?_
                  intro _ _
                  repeat' (first | (refine go_Y ?_; intros) | (refine gs_Y ?_ ?_ <;> (intro hgd; try (simp only [Bool.not_true, Bool.not_false] at hgd))) | (refine gc_Y ?_ ?_ <;> intro _) | fail)
                  refine cont_map (L' := [relP Z b (r), Z, pts b1 (.cells [.slice ps (ts.map tbV).length cs].toArray 24)] ++ R) entD ?_
                  refine cont_back (j + 1, ⟨(r, Z), hokR, hwfR, hsR, hwhR, hEX.trans hEZ⟩) ⟨h0, ⟨rfl, rfl, rfl, rfl, rfl, trivial⟩, rfl⟩ (by show ls.length - (j + 1) < ls.length - j; omega)
              | true =>
                have h4 : j < bs.length := by have := of_decide_eq_true t4; omega
                have hbi : bs[j]? = some bs[j] := List.getElem?_eq_getElem h4
                have hby : (bs.map blV)[j]? = some (blV bs[j]) := by rw [List.getElem?_map, hbi]; rfl
                have hnb : j < (bs.map blV).length := by omega
                refine ok_learn (VwIn.base (VwIn.there (VwIn.there (VwIn.there (VwIn.there (VwIn.here hbQ))))) (by intro e; rw [e] at hnb; simp at hnb)) ?_
                rintro ⟨bp, op, rfl⟩
                generalize bs[j] = c at hby
                dsimp only [blV] at hby
                cases c with
                | false =>
                  have hab := txAbort_spec bt b x Q
                  rw [if_neg (by rw [hov]; simp)] at hab
                  repeat' (first | (refine go_Y ?_; intros) | (refine gs_Y ?_ ?_ <;> (intro hgd; try (simp only [Bool.not_true, Bool.not_false] at hgd))) | (refine gc_Y ?_ ?_ <;> intro _) | fail)
                  refine cl_Y (hab) ?_
                  intro _ _
                  repeat' (first | (refine go_Y ?_; intros) | (refine gs_Y ?_ ?_ <;> (intro hgd; try (simp only [Bool.not_true, Bool.not_false] at hgd))) | (refine gc_Y ?_ ?_ <;> intro _) | fail)
                  have hokR : (r).Ok := hok
                  have hwfR : Rl.Wf (r) := hwf
                  have hsR : (r).s = ts.map Tb.c := hrs
                  have hwhR : (r).whole = true := hwh
                  have hEX : Ext P1 Q := hE.trans hEQ
                  refine ok_map (L' := [relP Q b r, relP Q bw r, Q, txP Q bt b x.abortT, pts b1 (.cells [.slice ps (ts.map tbV).length cs].toArray 24)] ++ R) entD ?_
                  refine ok_loop' (γ := Nat × GE Q) (fun g ρ L => g.1 ≤ ts.length ∧ Knows ρ [(1, .slice (some ⟨bu, ou, none⟩) (ls.map lmV).length cv), (2, .slice (some ⟨bp, op, none⟩) (bs.map blV).length cb), (3, .pointer (some ⟨b1, 0, none⟩)), (9, .pointer (some ⟨b, 0, none⟩)), (11, .int .i64 j), (14, .pointer (some ⟨bt, 0, none⟩)), (17, .pointer (some ⟨bw, 0, none⟩)), (20, .int .i64 g.1)] ∧ L = [relP g.2.1 b r, relP g.2.1 bw r, g.2.1, txP Q bt b x.abortT, pts b1 (.cells [.slice ps (ts.map tbV).length cs].toArray 24)] ++ R) (fun g => ts.length - g.1) (0, ⟨Q, Ext.refl Q⟩) ⟨by simp, ⟨rfl, rfl, rfl, rfl, rfl, rfl, rfl, rfl, trivial⟩, rfl⟩ ?_
                  rintro ⟨mm, ⟨Z, hEZ⟩⟩ ρ L ⟨hm1, hk, rfl⟩
                  dsimp only at hEZ hm1 hk ⊢
                  refine ok_regs hk ?_
                  cases t5 : decide ((mm : Int) < ((ts.map tbV).length : Int)) with
                  | true =>
                    have h5 : mm < ts.length := by have := of_decide_eq_true t5; omega
                    have hr1 := relRows_spec b (r) (mm : Int) Z hokR hwfR
                    have hr2 := fun Z' => relRows_spec bw (r) (mm : Int) Z' hokR hwfR
                    repeat' (first | (refine go_Y ?_; intros) | (refine gs_Y ?_ ?_ <;> (intro hgd; try (simp only [Bool.not_true, Bool.not_false] at hgd))) | (refine gc_Y ?_ ?_ <;> intro _) | fail)
                    refine cl_Y (hr1) ?_
                    rintro ⟨⟨va, hva⟩, la, Z1⟩ ⟨hz1, qa, oa⟩
                    dsimp only at hz1 qa oa ⊢
                    refine opsL_map (fun _ h => relP_ext (b := bw) (r := r) hz1 (Take.out1 takeD h)) ?_
                    repeat' (first | (refine go_Y ?_; intros) | (refine gs_Y ?_ ?_ <;> (intro hgd; try (simp only [Bool.not_true, Bool.not_false] at hgd))) | (refine gc_Y ?_ ?_ <;> intro _) | fail)
                    refine cl_Y (hr2 Z1) ?_
                    rintro ⟨⟨vq, hvq⟩, lb, Z2⟩ ⟨hz2, qb, ob⟩
                    dsimp only at hz2 qb ob ⊢
                    refine opsL_map (fun _ h => relP_ext (b := b) (r := r) hz2 (Take.out1 takeD h)) ?_
                    have hll1 : la.length ≤ 1000000 := by
                      have h1 := oa.perm.length_eq
                      have h2 := rowsAt_len hokR (mm : Int) (fun _ => true)
                      rw [List.length_map] at h1; omega
                    have hll2 : ∀ x ∈ la, x.2.length ≤ 1000000 := fun x hx => by
                      obtain ⟨p, hp, _⟩ := rowsAt_mem hokR (oa.perm.subset (List.mem_map_of_mem hx))
                      have := row_len hokR (aget_of_mem hokR hp)
                      omega
                    have hsa := same14_spec la lb va vq (row 26 1 va (la.map rwV)) (row 26 1 vq (lb.map rwV)) Z2 Vw.row Vw.row (fun x hx => hz2.vw (qa x hx)) qb hll1 hll2
                    rw [decide_eq_true (oa.uniq ob rfl (.refl _))] at hsa
                    repeat' (first | (refine go_Y ?_; intros) | (refine gs_Y ?_ ?_ <;> (intro hgd; try (simp only [Bool.not_true, Bool.not_false] at hgd))) | (refine gc_Y ?_ ?_ <;> intro _) | fail)
                    refine cl_Y (hsa) ?_
                    intro _ _
                    repeat' (first | (refine go_Y ?_; intros) | (refine gs_Y ?_ ?_ <;> (intro hgd; try (simp only [Bool.not_true, Bool.not_false] at hgd))) | (refine gc_Y ?_ ?_ <;> intro _) | fail)
                    refine cont_map (L' := [relP Z2 b r, relP Z2 bw r, Z2, txP Q bt b x.abortT, pts b1 (.cells [.slice ps (ts.map tbV).length cs].toArray 24)] ++ R) entD ?_
                    refine cont_back (mm + 1, ⟨Z2, (hEZ.trans hz1).trans hz2⟩) ⟨h5, ⟨rfl, rfl, rfl, rfl, rfl, rfl, rfl, rfl, trivial⟩, rfl⟩ (by show ts.length - (mm + 1) < ts.length - mm; omega)
                  | false =>
                    have hwR := relWhole_spec b (r) Z hokR
                    rw [hwhR, cond_true] at hwR
                    have hov' := txOver_spec bt b x.abortT Q
                    rw [show (x.abortT).over = true from rfl] at hov'
                    repeat' (first | (refine go_Y ?_; intros) | (refine gs_Y ?_ ?_ <;> (intro hgd; try (simp only [Bool.not_true, Bool.not_false] at hgd))) | (refine gc_Y ?_ ?_ <;> intro _) | fail)
                    refine cl_Y (hov') ?_
                    intro _ _
                    repeat' (first | (refine go_Y ?_; intros) | (refine gs_Y ?_ ?_ <;> (intro hgd; try (simp only [Bool.not_true, Bool.not_false] at hgd))) | (refine gc_Y ?_ ?_ <;> intro _) | fail)
                    refine cl_Y (hwR) ?_
                    intro _ _
                    repeat' (first | (refine go_Y ?_; intros) | (refine gs_Y ?_ ?_ <;> (intro hgd; try (simp only [Bool.not_true, Bool.not_false] at hgd))) | (refine gc_Y ?_ ?_ <;> intro _) | fail)
                    refine cont_map (L' := [relP Z b (r), Z, pts b1 (.cells [.slice ps (ts.map tbV).length cs].toArray 24)] ++ R) entD ?_
                    refine cont_back (j + 1, ⟨(r, Z), hokR, hwfR, hsR, hwhR, hEX.trans hEZ⟩) ⟨h0, ⟨rfl, rfl, rfl, rfl, rfl, trivial⟩, rfl⟩ (by show ls.length - (j + 1) < ls.length - j; omega)
                | true =>
                  have hchk : x.checkT r = bif x.own.whole then 0 else 140 := by unfold Tx.checkT; rw [hov, if_neg (by simp), if_neg (by rw [ht0]; simp)]
                  cases hw2 : x.own.whole with
                  | true =>
                    have hcy := commit_yes bt b x r Q hxo hUQ hok (by rw [hchk, hw2]; rfl)
                    rw [← hown] at hcy
                    repeat' (first | (refine go_Y ?_; intros) | (refine gs_Y ?_ ?_ <;> (intro hgd; try (simp only [Bool.not_true, Bool.not_false] at hgd))) | (refine gc_Y ?_ ?_ <;> intro _) | fail)
                    refine cl_Y (hcy) ?_
                    have g5 : (!(true == true)) = false := by decide
                    rintro ⟨⟨vm, hvm⟩, ck, Q1⟩ ⟨hEc, _, _⟩
                    dsimp only at hEc ⊢
                    refine opsL_map (fun _ h => relP_ext (b := bnx) (r := x.own) hEc (Take.out1 takeD h)) ?_
                    have hwn := relWhole_spec bnx x.own Q1 hxo.own
                    rw [hw2, cond_true] at hwn
                    repeat' (first | (refine go_Y ?_; intros) | (refine gs_Y ?_ ?_ <;> (intro hgd; try (simp only [Bool.not_true, Bool.not_false] at hgd))) | (refine gc_Y ?_ ?_ <;> intro _) | fail)
                    refine cl_Y (hwn) ?_
                    intro _ _
                    repeat' (first | (refine go_Y ?_; intros) | (refine gs_Y ?_ ?_ <;> (intro hgd; try (simp only [Bool.not_true, Bool.not_false] at hgd))) | (refine gc_Y ?_ ?_ <;> intro _) | fail)
                    have hokR : (x.own).Ok := hxo.own
                    have hwfR : Rl.Wf (x.own) := hxw
                    have hsR : (x.own).s = ts.map Tb.c := by rw [hown, play_s]; exact hrs
                    have hwhR : (x.own).whole = true := hw2
                    have hEX : Ext P1 Q1 := (hE.trans hEQ).trans hEc
                    refine ok_map (L' := [relP Q1 b x.own, relP Q1 bnx x.own, Q1, txP Q1 bt b x.abortT, pts b1 (.cells [.slice ps (ts.map tbV).length cs].toArray 24)] ++ R) entD ?_
                    refine ok_loop' (γ := Nat × GE Q1) (fun g ρ L => g.1 ≤ ts.length ∧ Knows ρ [(1, .slice (some ⟨bu, ou, none⟩) (ls.map lmV).length cv), (2, .slice (some ⟨bp, op, none⟩) (bs.map blV).length cb), (3, .pointer (some ⟨b1, 0, none⟩)), (9, .pointer (some ⟨b, 0, none⟩)), (11, .int .i64 j), (14, .pointer (some ⟨bt, 0, none⟩)), (17, .pointer (some ⟨bnx, 0, none⟩)), (20, .int .i64 g.1)] ∧ L = [relP g.2.1 b x.own, relP g.2.1 bnx x.own, g.2.1, txP Q1 bt b x.abortT, pts b1 (.cells [.slice ps (ts.map tbV).length cs].toArray 24)] ++ R) (fun g => ts.length - g.1) (0, ⟨Q1, Ext.refl Q1⟩) ⟨by simp, ⟨rfl, rfl, rfl, rfl, rfl, rfl, rfl, rfl, trivial⟩, rfl⟩ ?_
                    rintro ⟨mm, ⟨Z, hEZ⟩⟩ ρ L ⟨hm1, hk, rfl⟩
                    dsimp only at hEZ hm1 hk ⊢
                    refine ok_regs hk ?_
                    cases t5 : decide ((mm : Int) < ((ts.map tbV).length : Int)) with
                    | true =>
                      have h5 : mm < ts.length := by have := of_decide_eq_true t5; omega
                      have hr1 := relRows_spec b (x.own) (mm : Int) Z hokR hwfR
                      have hr2 := fun Z' => relRows_spec bnx (x.own) (mm : Int) Z' hokR hwfR
                      repeat' (first | (refine go_Y ?_; intros) | (refine gs_Y ?_ ?_ <;> (intro hgd; try (simp only [Bool.not_true, Bool.not_false] at hgd))) | (refine gc_Y ?_ ?_ <;> intro _) | fail)
                      refine cl_Y (hr1) ?_
                      rintro ⟨⟨va, hva⟩, la, Z1⟩ ⟨hz1, qa, oa⟩
                      dsimp only at hz1 qa oa ⊢
                      refine opsL_map (fun _ h => relP_ext (b := bnx) (r := x.own) hz1 (Take.out1 takeD h)) ?_
                      repeat' (first | (refine go_Y ?_; intros) | (refine gs_Y ?_ ?_ <;> (intro hgd; try (simp only [Bool.not_true, Bool.not_false] at hgd))) | (refine gc_Y ?_ ?_ <;> intro _) | fail)
                      refine cl_Y (hr2 Z1) ?_
                      rintro ⟨⟨vq, hvq⟩, lb, Z2⟩ ⟨hz2, qb, ob⟩
                      dsimp only at hz2 qb ob ⊢
                      refine opsL_map (fun _ h => relP_ext (b := b) (r := x.own) hz2 (Take.out1 takeD h)) ?_
                      have hll1 : la.length ≤ 1000000 := by
                        have h1 := oa.perm.length_eq
                        have h2 := rowsAt_len hokR (mm : Int) (fun _ => true)
                        rw [List.length_map] at h1; omega
                      have hll2 : ∀ x ∈ la, x.2.length ≤ 1000000 := fun x hx => by
                        obtain ⟨p, hp, _⟩ := rowsAt_mem hokR (oa.perm.subset (List.mem_map_of_mem hx))
                        have := row_len hokR (aget_of_mem hokR hp)
                        omega
                      have hsa := same14_spec la lb va vq (row 26 1 va (la.map rwV)) (row 26 1 vq (lb.map rwV)) Z2 Vw.row Vw.row (fun x hx => hz2.vw (qa x hx)) qb hll1 hll2
                      rw [decide_eq_true (oa.uniq ob rfl (.refl _))] at hsa
                      repeat' (first | (refine go_Y ?_; intros) | (refine gs_Y ?_ ?_ <;> (intro hgd; try (simp only [Bool.not_true, Bool.not_false] at hgd))) | (refine gc_Y ?_ ?_ <;> intro _) | fail)
                      refine cl_Y (hsa) ?_
                      intro _ _
                      repeat' (first | (refine go_Y ?_; intros) | (refine gs_Y ?_ ?_ <;> (intro hgd; try (simp only [Bool.not_true, Bool.not_false] at hgd))) | (refine gc_Y ?_ ?_ <;> intro _) | fail)
                      refine cont_map (L' := [relP Z2 b x.own, relP Z2 bnx x.own, Z2, txP Q1 bt b x.abortT, pts b1 (.cells [.slice ps (ts.map tbV).length cs].toArray 24)] ++ R) entD ?_
                      refine cont_back (mm + 1, ⟨Z2, (hEZ.trans hz1).trans hz2⟩) ⟨h5, ⟨rfl, rfl, rfl, rfl, rfl, rfl, rfl, rfl, trivial⟩, rfl⟩ (by show ts.length - (mm + 1) < ts.length - mm; omega)
                    | false =>
                      have hwR := relWhole_spec b (x.own) Z hokR
                      rw [hwhR, cond_true] at hwR
                      have hov' := txOver_spec bt b x.abortT Q1
                      rw [show (x.abortT).over = true from rfl] at hov'
                      repeat' (first | (refine go_Y ?_; intros) | (refine gs_Y ?_ ?_ <;> (intro hgd; try (simp only [Bool.not_true, Bool.not_false] at hgd))) | (refine gc_Y ?_ ?_ <;> intro _) | fail)
                      refine cl_Y (hov') ?_
                      intro _ _
                      repeat' (first | (refine go_Y ?_; intros) | (refine gs_Y ?_ ?_ <;> (intro hgd; try (simp only [Bool.not_true, Bool.not_false] at hgd))) | (refine gc_Y ?_ ?_ <;> intro _) | fail)
                      refine cl_Y (hwR) ?_
                      intro _ _
                      repeat' (first | (refine go_Y ?_; intros) | (refine gs_Y ?_ ?_ <;> (intro hgd; try (simp only [Bool.not_true, Bool.not_false] at hgd))) | (refine gc_Y ?_ ?_ <;> intro _) | fail)
                      refine cont_map (L' := [relP Z b (x.own), Z, pts b1 (.cells [.slice ps (ts.map tbV).length cs].toArray 24)] ++ R) entD ?_
                      refine cont_back (j + 1, ⟨(x.own, Z), hokR, hwfR, hsR, hwhR, hEX.trans hEZ⟩) ⟨h0, ⟨rfl, rfl, rfl, rfl, rfl, trivial⟩, rfl⟩ (by show ls.length - (j + 1) < ls.length - j; omega)
                  | false =>
                    have hch0 : x.checkT r = 140 := by rw [hchk, hw2]; rfl
                    have hcn := commit_no bt b x r Q hxo hov (by rw [hch0]; decide)
                    rw [hch0] at hcn
                    have g1 : decide ((140 : Int) = (0 : Int)) = false := by decide
                    have g2 : (!decide ((140 : Int) = (0 : Int))) = true := by decide
                    have g3 : (!decide ((140 : Int) = (140 : Int))) = false := by decide
                    have g4 : (!decide (((0 : Nat) : Int) = 0)) = false := by decide
                    have g5 : (!(false == false)) = false := by decide
                    repeat' (first | (refine go_Y ?_; intros) | (refine gs_Y ?_ ?_ <;> (intro hgd; try (simp only [Bool.not_true, Bool.not_false] at hgd))) | (refine gc_Y ?_ ?_ <;> intro _) | fail)
                    refine cl_Y (hcn) ?_
                    intro _ _
                    have hwn := relWhole_spec bnx x.own Q hxo.own
                    rw [hw2, cond_false] at hwn
                    repeat' (first | (refine go_Y ?_; intros) | (refine gs_Y ?_ ?_ <;> (intro hgd; try (simp only [Bool.not_true, Bool.not_false] at hgd))) | (refine gc_Y ?_ ?_ <;> intro _) | fail)
                    refine cl_Y (hwn) ?_
                    intro _ _
                    repeat' (first | (refine go_Y ?_; intros) | (refine gs_Y ?_ ?_ <;> (intro hgd; try (simp only [Bool.not_true, Bool.not_false] at hgd))) | (refine gc_Y ?_ ?_ <;> intro _) | fail)
                    have hokR : (r).Ok := hok
                    have hwfR : Rl.Wf (r) := hwf
                    have hsR : (r).s = ts.map Tb.c := hrs
                    have hwhR : (r).whole = true := hwh
                    have hEX : Ext P1 Q := hE.trans hEQ
                    refine ok_map (L' := [relP Q b r, relP Q bw r, Q, txP Q bt b x.abortT, pts b1 (.cells [.slice ps (ts.map tbV).length cs].toArray 24)] ++ R) entD ?_
                    refine ok_loop' (γ := Nat × GE Q) (fun g ρ L => g.1 ≤ ts.length ∧ Knows ρ [(1, .slice (some ⟨bu, ou, none⟩) (ls.map lmV).length cv), (2, .slice (some ⟨bp, op, none⟩) (bs.map blV).length cb), (3, .pointer (some ⟨b1, 0, none⟩)), (9, .pointer (some ⟨b, 0, none⟩)), (11, .int .i64 j), (14, .pointer (some ⟨bt, 0, none⟩)), (17, .pointer (some ⟨bw, 0, none⟩)), (20, .int .i64 g.1)] ∧ L = [relP g.2.1 b r, relP g.2.1 bw r, g.2.1, txP Q bt b x.abortT, pts b1 (.cells [.slice ps (ts.map tbV).length cs].toArray 24)] ++ R) (fun g => ts.length - g.1) (0, ⟨Q, Ext.refl Q⟩) ⟨by simp, ⟨rfl, rfl, rfl, rfl, rfl, rfl, rfl, rfl, trivial⟩, rfl⟩ ?_
                    rintro ⟨mm, ⟨Z, hEZ⟩⟩ ρ L ⟨hm1, hk, rfl⟩
                    dsimp only at hEZ hm1 hk ⊢
                    refine ok_regs hk ?_
                    cases t5 : decide ((mm : Int) < ((ts.map tbV).length : Int)) with
                    | true =>
                      have h5 : mm < ts.length := by have := of_decide_eq_true t5; omega
                      have hr1 := relRows_spec b (r) (mm : Int) Z hokR hwfR
                      have hr2 := fun Z' => relRows_spec bw (r) (mm : Int) Z' hokR hwfR
                      repeat' (first | (refine go_Y ?_; intros) | (refine gs_Y ?_ ?_ <;> (intro hgd; try (simp only [Bool.not_true, Bool.not_false] at hgd))) | (refine gc_Y ?_ ?_ <;> intro _) | fail)
                      refine cl_Y (hr1) ?_
                      rintro ⟨⟨va, hva⟩, la, Z1⟩ ⟨hz1, qa, oa⟩
                      dsimp only at hz1 qa oa ⊢
                      refine opsL_map (fun _ h => relP_ext (b := bw) (r := r) hz1 (Take.out1 takeD h)) ?_
                      repeat' (first | (refine go_Y ?_; intros) | (refine gs_Y ?_ ?_ <;> (intro hgd; try (simp only [Bool.not_true, Bool.not_false] at hgd))) | (refine gc_Y ?_ ?_ <;> intro _) | fail)
                      refine cl_Y (hr2 Z1) ?_
                      rintro ⟨⟨vq, hvq⟩, lb, Z2⟩ ⟨hz2, qb, ob⟩
                      dsimp only at hz2 qb ob ⊢
                      refine opsL_map (fun _ h => relP_ext (b := b) (r := r) hz2 (Take.out1 takeD h)) ?_
                      have hll1 : la.length ≤ 1000000 := by
                        have h1 := oa.perm.length_eq
                        have h2 := rowsAt_len hokR (mm : Int) (fun _ => true)
                        rw [List.length_map] at h1; omega
                      have hll2 : ∀ x ∈ la, x.2.length ≤ 1000000 := fun x hx => by
                        obtain ⟨p, hp, _⟩ := rowsAt_mem hokR (oa.perm.subset (List.mem_map_of_mem hx))
                        have := row_len hokR (aget_of_mem hokR hp)
                        omega
                      have hsa := same14_spec la lb va vq (row 26 1 va (la.map rwV)) (row 26 1 vq (lb.map rwV)) Z2 Vw.row Vw.row (fun x hx => hz2.vw (qa x hx)) qb hll1 hll2
                      rw [decide_eq_true (oa.uniq ob rfl (.refl _))] at hsa
                      repeat' (first | (refine go_Y ?_; intros) | (refine gs_Y ?_ ?_ <;> (intro hgd; try (simp only [Bool.not_true, Bool.not_false] at hgd))) | (refine gc_Y ?_ ?_ <;> intro _) | fail)
                      refine cl_Y (hsa) ?_
                      intro _ _
                      repeat' (first | (refine go_Y ?_; intros) | (refine gs_Y ?_ ?_ <;> (intro hgd; try (simp only [Bool.not_true, Bool.not_false] at hgd))) | (refine gc_Y ?_ ?_ <;> intro _) | fail)
                      refine cont_map (L' := [relP Z2 b r, relP Z2 bw r, Z2, txP Q bt b x.abortT, pts b1 (.cells [.slice ps (ts.map tbV).length cs].toArray 24)] ++ R) entD ?_
                      refine cont_back (mm + 1, ⟨Z2, (hEZ.trans hz1).trans hz2⟩) ⟨h5, ⟨rfl, rfl, rfl, rfl, rfl, rfl, rfl, rfl, trivial⟩, rfl⟩ (by show ts.length - (mm + 1) < ts.length - mm; omega)
                    | false =>
                      have hwR := relWhole_spec b (r) Z hokR
                      rw [hwhR, cond_true] at hwR
                      have hov' := txOver_spec bt b x.abortT Q
                      rw [show (x.abortT).over = true from rfl] at hov'
                      repeat' (first | (refine go_Y ?_; intros) | (refine gs_Y ?_ ?_ <;> (intro hgd; try (simp only [Bool.not_true, Bool.not_false] at hgd))) | (refine gc_Y ?_ ?_ <;> intro _) | fail)
                      refine cl_Y (hov') ?_
                      intro _ _
                      repeat' (first | (refine go_Y ?_; intros) | (refine gs_Y ?_ ?_ <;> (intro hgd; try (simp only [Bool.not_true, Bool.not_false] at hgd))) | (refine gc_Y ?_ ?_ <;> intro _) | fail)
                      refine cl_Y (hwR) ?_
                      intro _ _
                      repeat' (first | (refine go_Y ?_; intros) | (refine gs_Y ?_ ?_ <;> (intro hgd; try (simp only [Bool.not_true, Bool.not_false] at hgd))) | (refine gc_Y ?_ ?_ <;> intro _) | fail)
                      refine cont_map (L' := [relP Z b (r), Z, pts b1 (.cells [.slice ps (ts.map tbV).length cs].toArray 24)] ++ R) entD ?_
                      refine cont_back (j + 1, ⟨(r, Z), hokR, hwfR, hsR, hwhR, hEX.trans hEZ⟩) ⟨h0, ⟨rfl, rfl, rfl, rfl, rfl, trivial⟩, rfl⟩ (by show ls.length - (j + 1) < ls.length - j; omega)
end Go.Proofs.YtbagfdolcabniaaDoor
