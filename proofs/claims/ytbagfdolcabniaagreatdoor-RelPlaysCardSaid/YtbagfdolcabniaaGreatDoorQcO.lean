/- The law RelCopies (layer 14). -/
import Derived.Test.YtbagfdolcabniaaGreatDoorG14
import Derived.Test.YtbagfdolcabniaaGreatDoorL14E
import Derived.Test.YtbagfdolcabniaaGreatDoorRkP
import Derived.Test.YtbagfdolcabniaaGreatDoorG11
-- @DEFS Y
set_option linter.unusedSimpArgs false
set_option linter.unusedVariables false
set_option maxRecDepth 100000
namespace Go.Proofs.YtbagfdolcabniaaGreatDoor
open Go Go.Fx Go.Proofs Go.Pl

theorem doOp_s' (r : Rl) (o : Opr) : (r.doOp o).1.s = r.s := by
  rcases doOp_did r o with ⟨_, e, _⟩ | ⟨_, p, d⟩
  · rw [e]
  · rw [d.s]
theorem doOp_wf' {r : Rl} (h : Rl.Wf r) {o : Opr} (hw : ∀ v ∈ o.row, v.wf) : Rl.Wf (r.doOp o).1 := by
  rcases doOp_did r o with ⟨_, e, _⟩ | ⟨_, p, d⟩
  · rw [e]; exact h
  · intro x hx
    rcases d.kind with ⟨_, _, e, _⟩ | ⟨_, _, e, _⟩ | ⟨_, _, e, _⟩
    · rw [e] at hx
      rcases aput_mem _ _ _ x hx with rfl | hx
      · exact hw
      · exact h x hx
    · rw [e] at hx
      rcases aput_mem _ _ _ x hx with rfl | hx
      · exact hw
      · exact h x hx
    · rw [e] at hx
      exact h x (adel_sub _ _ x hx)
theorem new_wf' {s : Sc} : Rl.Wf ⟨s, [], 0⟩ := fun x hx => by simp at hx
abbrev GP (ts : List Tb) (P1 : HProp) := { x : Rl × HProp // x.1.Ok ∧ Rl.Wf x.1 ∧ x.1.s = ts.map Tb.c ∧ Ext P1 x.2 }
abbrev GP2 (ts : List Tb) (P1 : HProp) := { x : Rl × Rl × HProp // (x.1.Ok ∧ Rl.Wf x.1 ∧ x.1.s = ts.map Tb.c) ∧ (x.2.1.Ok ∧ Rl.Wf x.2.1 ∧ x.2.1.s = ts.map Tb.c) ∧ Ext P1 x.2.2 }
set_option maxHeartbeats 16000000 in
theorem RelCopies_spec (vs vo vm : Value) (ts : List Tb) (ops more : List Om) (A : HProp) (hU : UT A) (hvc : vs.oneCell' = true) (h : SVr A vs ts) (ho : OsR A vo ops) (hm : OsR A vm more)
    (hwops : ∀ q ∈ ops, ∀ v ∈ q.row, v.wf) (hwmore : ∀ q ∈ more, ∀ v ∈ q.row, v.wf) :
    FSpec Tryz.prog 3 [.agg #[vs], vo, vm] [A] HProp (fun P' => Ext A P') (fun _ => .bool true) (fun P' => [P']) := by
  have hzo := ho.len
  have hzm := hm.len
  have hvops := ho.vw
  have hvmore := hm.vw
  have hopops := fun q (hq : q ∈ ops) => (ho.op q hq).vw
  have hopmore := fun q (hq : q ∈ more) => (hm.op q hq).vw
  have lmo : (ops.map opV).length = ops.length := by simp
  have lmm : (more.map opV).length = more.length := by simp
  have hh1 := heavy14_spec vs vo ts ops A h ho
  have hh2 := heavy14_spec vs vm ts more A h hm
  have hmay := fun hs => rMay_spec vs ts A hvc (h.sv hs)
  refine spec_intro [] _ Tryz.func3 rfl Tryz.ntmps3 (by rfl) (fun w0 R => ?_)
  refine ok_learn (VwIn.slice (VwIn.here hvops)) ?_
  rintro ⟨pv, cv, rfl⟩
  refine ok_learn (VwIn.slice (VwIn.here hvmore)) ?_
  rintro ⟨pm, cm, rfl⟩
  refine ok_learn (VwIn.slice (VwIn.here h.vw)) ?_
  rintro ⟨ps, cs, rfl⟩
  have lt : (ts.map tbV).length = ts.length := by simp
  repeat' (first | (refine go_Y ?_; intros) | (refine gs_Y ?_ ?_ <;> (intro hgd; try (simp only [Bool.not_true, Bool.not_false] at hgd))) | (refine gc_Y ?_ ?_ <;> intro _) | fail)
  rename_i b3
  refine cl_Y (hh1) ?_
  intro y1 hlg
  cases y1 with
  | true =>
    repeat' (first | (refine go_Y ?_; intros) | (refine gs_Y ?_ ?_ <;> (intro hgd; try (simp only [Bool.not_true, Bool.not_false] at hgd))) | (refine gc_Y ?_ ?_ <;> intro _) | fail)
    refine cl_Y (alive14_spec A hU) ?_
    intro _ _
    repeat' (first | (refine go_Y ?_; intros) | (refine gs_Y ?_ ?_ <;> (intro hgd; try (simp only [Bool.not_true, Bool.not_false] at hgd))) | (refine gc_Y ?_ ?_ <;> intro _) | fail)
    (refine rt_Y (y := A) (hrs := Tryz.results3) (hv := ?_) (hφ := ?_))
    · rfl
    · exact Ext.refl A
  | false =>
  have hsm := hlg rfl
  repeat' (first | (refine go_Y ?_; intros) | (refine gs_Y ?_ ?_ <;> (intro hgd; try (simp only [Bool.not_true, Bool.not_false] at hgd))) | (refine gc_Y ?_ ?_ <;> intro _) | fail)
  refine cl_Y (hh2) ?_
  intro y2 hlg2
  cases y2 with
  | true =>
    repeat' (first | (refine go_Y ?_; intros) | (refine gs_Y ?_ ?_ <;> (intro hgd; try (simp only [Bool.not_true, Bool.not_false] at hgd))) | (refine gc_Y ?_ ?_ <;> intro _) | fail)
    refine cl_Y (alive14_spec A hU) ?_
    intro _ _
    repeat' (first | (refine go_Y ?_; intros) | (refine gs_Y ?_ ?_ <;> (intro hgd; try (simp only [Bool.not_true, Bool.not_false] at hgd))) | (refine gc_Y ?_ ?_ <;> intro _) | fail)
    (refine rt_Y (y := A) (hrs := Tryz.results3) (hv := ?_) (hφ := ?_))
    · rfl
    · exact Ext.refl A
  | false =>
  have hsm2 := hlg2 rfl
  have hmay := hmay hsm.1
  have hlops := fun q (hq : q ∈ ops) => hsm.2.2 q hq
  have hlmore := fun q (hq : q ∈ more) => hsm2.2.2 q hq
  have hsv := h.sv hsm.1
  cases hck : checkS (ts.map Tb.c) with
  | false =>
    rw [hck] at hmay
    repeat' (first | (refine go_Y ?_; intros) | (refine gs_Y ?_ ?_ <;> (intro hgd; try (simp only [Bool.not_true, Bool.not_false] at hgd))) | (refine gc_Y ?_ ?_ <;> intro _) | fail)
    refine cl_Y (hmay) ?_
    intro _ _
    repeat' (first | (refine go_Y ?_; intros) | (refine gs_Y ?_ ?_ <;> (intro hgd; try (simp only [Bool.not_true, Bool.not_false] at hgd))) | (refine gc_Y ?_ ?_ <;> intro _) | fail)
    refine cl_Y (alive14_spec A hU) ?_
    intro _ _
    repeat' (first | (refine go_Y ?_; intros) | (refine gs_Y ?_ ?_ <;> (intro hgd; try (simp only [Bool.not_true, Bool.not_false] at hgd))) | (refine gc_Y ?_ ?_ <;> intro _) | fail)
    (refine rt_Y (y := A) (hrs := Tryz.results3) (hv := ?_) (hφ := ?_))
    · rfl
    · exact Ext.refl A
  | true =>
  rw [hck] at hmay
  have hnew := new_spec (.slice ps (ts.map tbV).length cs) ts A hsv hck
  repeat' (first | (refine go_Y ?_; intros) | (refine gs_Y ?_ ?_ <;> (intro hgd; try (simp only [Bool.not_true, Bool.not_false] at hgd))) | (refine gc_Y ?_ ?_ <;> intro _) | fail)
  refine cl_Y (hmay) ?_
  intro _ _
  repeat' (first | (refine go_Y ?_; intros) | (refine gs_Y ?_ ?_ <;> (intro hgd; try (simp only [Bool.not_true, Bool.not_false] at hgd))) | (refine gc_Y ?_ ?_ <;> intro _) | fail)
  refine cl_Y (hnew) ?_
  rintro ⟨b, P1⟩ hE1
  dsimp only at hE1 ⊢
  repeat' (first | (refine go_Y ?_; intros) | (refine gs_Y ?_ ?_ <;> (intro hgd; try (simp only [Bool.not_true, Bool.not_false] at hgd))) | (refine gc_Y ?_ ?_ <;> intro _) | fail)
  have hn14 := new14_spec (.slice ps (ts.map tbV).length cs) ts P1 (hsv.ext hE1) (by have := hsm.1.1; omega) (fun t ht => by have := hsm.1.2 t ht; omega)
  refine cl_Y (hn14) ?_
  rintro ⟨bx, P2⟩ hE2
  dsimp only at hE2 ⊢
  repeat' (first | (refine go_Y ?_; intros) | (refine gs_Y ?_ ?_ <;> (intro hgd; try (simp only [Bool.not_true, Bool.not_false] at hgd))) | (refine gc_Y ?_ ?_ <;> intro _) | fail)
  refine ok_map (fun _ h => relP_ext hE2 (b := b) (r := ⟨ts.map Tb.c, [], 0⟩) (Take.out1 (A := relP P1 b ⟨ts.map Tb.c, [], 0⟩) takeD h)) ?_
  have hA2 := hE1.trans hE2
  refine ok_map (L' := [P2, relP P2 b ⟨ts.map Tb.c, [], 0⟩, rfP P2 bx ⟨ts.map Tb.c, [], 0⟩, pts b3 (.cells [.slice ps (ts.map tbV).length cs].toArray 24)] ++ R) entD ?_
  refine ok_loop' (γ := Nat × GP ts A) (fun g ρ L => g.1 ≤ ops.length ∧ Knows ρ [(1, .slice pv (ops.map opV).length cv), (2, .slice pm (more.map opV).length cm), (3, .pointer (some ⟨b3, 0, none⟩)), (7, .pointer (some ⟨b, 0, none⟩)), (9, .pointer (some ⟨bx, 0, none⟩)), (10, .int .i64 g.1)] ∧
      L = [g.2.1.2, relP g.2.1.2 b g.2.1.1, rfP g.2.1.2 bx g.2.1.1, pts b3 (.cells [.slice ps (ts.map tbV).length cs].toArray 24)] ++ R) (fun g => ops.length - g.1)
    (0, ⟨(⟨ts.map Tb.c, [], 0⟩, P2), Rl.Ok.new hck, new_wf', rfl, hA2⟩) ⟨by simp, ⟨rfl, rfl, rfl, rfl, rfl, rfl, trivial⟩, rfl⟩ ?_
  rintro ⟨i, ⟨r, P⟩, hokr, hwfr, hsr, hE⟩ ρ L ⟨hi, hk, rfl⟩
  dsimp only at hokr hwfr hsr hE hi hk ⊢
  refine ok_regs hk ?_
  have hUP := hU.ext hE
  cases t1 : decide ((i : Int) < ((ops.map opV).length : Int)) with
  | true =>
    have h0 : i < ops.length := by have := of_decide_eq_true t1; omega
    have hti : ops[i]? = some ops[i] := List.getElem?_eq_getElem h0
    have hx : (ops.map opV)[i]? = some (opV ops[i]) := by rw [List.getElem?_map, hti]; rfl
    have hnn : i < (ops.map opV).length := by omega
    have hmm := List.getElem_mem h0
    have hvw := hE.vw (hopops _ hmm)
    have hwfo := hwops _ hmm
    have hln := hlops _ hmm
    have hvP := hE.vw hvops
    refine ok_learn (VwIn.base (n := 3) (xs := ops.map opV) (VwIn.here hvP) (by intro e; rw [e] at hnn; simp at hnn)) ?_
    rintro ⟨bu, ou, rfl⟩
    generalize ops[i] = q at hx hvw hwfo hln
    obtain ⟨qk, qt, ⟨qv, hqv⟩, qrow⟩ := q
    dsimp only [opV] at hx hvw hwfo hln
    have hdo := relDo_spec b r ⟨qk, qt, qrow⟩ qv P hokr hUP hvw hqv hwfo (by show qrow.length ≤ _; omega)
    have hokn := hokr.doOp ⟨qk, qt, qrow⟩
    have hsn' : (r.doOp ⟨qk, qt, qrow⟩).1.s = ts.map Tb.c := (doOp_s' r _).trans hsr
    have hwn := doOp_wf' hwfr (o := ⟨qk, qt, qrow⟩) hwfo
    repeat' (first | (refine go_Y ?_; intros) | (refine gs_Y ?_ ?_ <;> (intro hgd; try (simp only [Bool.not_true, Bool.not_false] at hgd))) | (refine gc_Y ?_ ?_ <;> intro _) | fail)
    refine cl_Y (hdo) ?_
    rintro ⟨⟨b4, hb4⟩, ⟨a4, ha4⟩, P1'⟩ ⟨hE1', _⟩
    dsimp only at hE1' ⊢
    have hvP1 := hE1'.vw hvP
    have hd2 := do14_spec bx r ⟨qk, qt, qrow⟩ qv P1' hokr hwfr (hUP.ext hE1') (hE1'.vw hvw) hqv hwfo
    repeat' (first | (refine go_Y ?_; intros) | (refine gs_Y ?_ ?_ <;> (intro hgd; try (simp only [Bool.not_true, Bool.not_false] at hgd))) | (refine gc_Y ?_ ?_ <;> intro _) | fail)
    refine opsL_mapL (fun _ h => rfP_ext hE1' (b := bx) (r := r) (Take.out1 (A := rfP P bx r) takeD h)) ?_
    repeat' (first | (refine go_Y ?_; intros) | (refine gs_Y ?_ ?_ <;> (intro hgd; try (simp only [Bool.not_true, Bool.not_false] at hgd))) | (refine gc_Y ?_ ?_ <;> intro _) | fail)
    refine cl_Y (hd2) ?_
    rintro ⟨⟨b5, hb5⟩, ⟨a5, ha5⟩, P2'⟩ ⟨hE2', _⟩
    dsimp only at hE2' ⊢
    repeat' (first | (refine go_Y ?_; intros) | (refine gs_Y ?_ ?_ <;> (intro hgd; try (simp only [Bool.not_true, Bool.not_false] at hgd))) | (refine gc_Y ?_ ?_ <;> intro _) | fail)
    refine cont_map (fun _ h => relP_ext hE2' (b := b) (r := (r.doOp ⟨qk, qt, qrow⟩).1) (Take.out1 (A := relP P1' b (r.doOp ⟨qk, qt, qrow⟩).1) takeD h)) ?_
    refine cont_map (L' := [P2', relP P2' b (r.doOp ⟨qk, qt, qrow⟩).1, rfP P2' bx (r.doOp ⟨qk, qt, qrow⟩).1, pts b3 (.cells [.slice ps (ts.map tbV).length cs].toArray 24)] ++ R) entD ?_
    refine cont_back (i + 1, ⟨((r.doOp ⟨qk, qt, qrow⟩).1, P2'), hokn, hwn, hsn', hE.trans (hE1'.trans hE2')⟩) ⟨h0, ⟨rfl, rfl, rfl, rfl, rfl, rfl, trivial⟩, rfl⟩ (by show ops.length - (i + 1) < ops.length - i; omega)
  | false =>
    repeat' (first | (refine go_Y ?_; intros) | (refine gs_Y ?_ ?_ <;> (intro hgd; try (simp only [Bool.not_true, Bool.not_false] at hgd))) | (refine gc_Y ?_ ?_ <;> intro _) | fail)
    have hcp := relCopy_spec b r P
    refine cl_Y (hcp) ?_
    intro bc _
    repeat' (first | (refine go_Y ?_; intros) | (refine gs_Y ?_ ?_ <;> (intro hgd; try (simp only [Bool.not_true, Bool.not_false] at hgd))) | (refine gc_Y ?_ ?_ <;> intro _) | fail)
    have ha1 := lall2_spec bc bx r P hokr hwfr
    refine cl_Y (ha1) ?_
    intro P1' hE1'
    repeat' (first | (refine go_Y ?_; intros) | (refine gs_Y ?_ ?_ <;> (intro hgd; try (simp only [Bool.not_true, Bool.not_false] at hgd))) | (refine gc_Y ?_ ?_ <;> intro _) | fail)
    have hcx := copy14_spec bx r P1' hokr
    refine cl_Y (hcx) ?_
    rintro ⟨bxc, P2'⟩ hE2'
    dsimp only at hE2' ⊢
    repeat' (first | (refine go_Y ?_; intros) | (refine gs_Y ?_ ?_ <;> (intro hgd; try (simp only [Bool.not_true, Bool.not_false] at hgd))) | (refine gc_Y ?_ ?_ <;> intro _) | fail)
    refine ok_map (fun _ h => relP_ext (hE1'.trans hE2') (b := b) (r := r) (Take.out1 (A := relP P b r) takeD h)) ?_
    refine ok_map (fun _ h => relP_ext hE2' (b := bc) (r := r) (Take.out1 (A := relP P1' bc r) takeD h)) ?_
    have hEE := hE.trans (hE1'.trans hE2')
    refine ok_map (L' := [P2', relP P2' b r, rfP P2' bx r, relP P2' bc r, rfP P2' bxc r, pts b3 (.cells [.slice ps (ts.map tbV).length cs].toArray 24)] ++ R) entD ?_
    refine ok_loop' (γ := Nat × GP2 ts A) (fun g ρ L => g.1 ≤ more.length ∧ Knows ρ [(2, .slice pm (more.map opV).length cm), (7, .pointer (some ⟨b, 0, none⟩)), (9, .pointer (some ⟨bx, 0, none⟩)), (11, .pointer (some ⟨bc, 0, none⟩)), (12, .pointer (some ⟨bxc, 0, none⟩)), (13, .int .i64 g.1)] ∧
        L = [g.2.1.2.2, relP g.2.1.2.2 b g.2.1.1, rfP g.2.1.2.2 bx g.2.1.1, relP g.2.1.2.2 bc g.2.1.2.1, rfP g.2.1.2.2 bxc g.2.1.2.1, pts b3 (.cells [.slice ps (ts.map tbV).length cs].toArray 24)] ++ R) (fun g => more.length - g.1)
      (0, ⟨(r, r, P2'), ⟨hokr, hwfr, hsr⟩, ⟨hokr, hwfr, hsr⟩, hEE⟩) ⟨by simp, ⟨rfl, rfl, rfl, rfl, rfl, rfl, trivial⟩, rfl⟩ ?_
    rintro ⟨k, ⟨r1, r2, Q⟩, ⟨ok1, wf1, s1⟩, ⟨ok2, wf2, s2⟩, hEQ⟩ ρ L ⟨hk0, hk, rfl⟩
    dsimp only at ok1 wf1 s1 ok2 wf2 s2 hEQ hk0 hk ⊢
    refine ok_regs hk ?_
    have hUQ := hU.ext hEQ
    cases u1 : decide ((k : Int) < ((more.map opV).length : Int)) with
    | true =>
      have h0 : k < more.length := by have := of_decide_eq_true u1; omega
      have hti : more[k]? = some more[k] := List.getElem?_eq_getElem h0
      have hx : (more.map opV)[k]? = some (opV more[k]) := by rw [List.getElem?_map, hti]; rfl
      have hnn : k < (more.map opV).length := by omega
      have hmm := List.getElem_mem h0
      have hvw := hEQ.vw (hopmore _ hmm)
      have hwfo := hwmore _ hmm
      have hln := hlmore _ hmm
      have hvP := hEQ.vw hvmore
      refine ok_learn (VwIn.base (n := 3) (xs := more.map opV) (VwIn.here hvP) (by intro e; rw [e] at hnn; simp at hnn)) ?_
      rintro ⟨bu, ou, rfl⟩
      generalize more[k] = q at hx hvw hwfo hln
      obtain ⟨qk, qt, ⟨qv, hqv⟩, qrow⟩ := q
      dsimp only [opV] at hx hvw hwfo hln
      cases u2 : decide ((k : Int).tmod 2 = 0) with
      | true =>
        have hdo := relDo_spec b r1 ⟨qk, qt, qrow⟩ qv Q ok1 hUQ hvw hqv hwfo (by show qrow.length ≤ _; omega)
        have hokn := ok1.doOp ⟨qk, qt, qrow⟩
        have hsn' : (r1.doOp ⟨qk, qt, qrow⟩).1.s = ts.map Tb.c := (doOp_s' r1 _).trans s1
        have hwn := doOp_wf' wf1 (o := ⟨qk, qt, qrow⟩) hwfo
        repeat' (first | (refine go_Y ?_; intros) | (refine gs_Y ?_ ?_ <;> (intro hgd; try (simp only [Bool.not_true, Bool.not_false] at hgd))) | (refine gc_Y ?_ ?_ <;> intro _) | fail)
        refine cl_Y (hdo) ?_
        rintro ⟨⟨b4, hb4⟩, ⟨a4, ha4⟩, Q1⟩ ⟨hQ1, _⟩
        dsimp only at hQ1 ⊢
        have hvP1 := hQ1.vw hvP
        have hd2 := do14_spec bx r1 ⟨qk, qt, qrow⟩ qv Q1 ok1 wf1 (hUQ.ext hQ1) (hQ1.vw hvw) hqv hwfo
        repeat' (first | (refine go_Y ?_; intros) | (refine gs_Y ?_ ?_ <;> (intro hgd; try (simp only [Bool.not_true, Bool.not_false] at hgd))) | (refine gc_Y ?_ ?_ <;> intro _) | fail)
        refine opsL_mapL (fun _ h => rfP_ext hQ1 (b := bx) (r := r1) (Take.out1 (A := rfP Q bx r1) takeD h)) ?_
        repeat' (first | (refine go_Y ?_; intros) | (refine gs_Y ?_ ?_ <;> (intro hgd; try (simp only [Bool.not_true, Bool.not_false] at hgd))) | (refine gc_Y ?_ ?_ <;> intro _) | fail)
        refine cl_Y (hd2) ?_
        rintro ⟨⟨b5, hb5⟩, ⟨a5, ha5⟩, Q2⟩ ⟨hQ2, _⟩
        dsimp only at hQ2 ⊢
        repeat' (first | (refine go_Y ?_; intros) | (refine gs_Y ?_ ?_ <;> (intro hgd; try (simp only [Bool.not_true, Bool.not_false] at hgd))) | (refine gc_Y ?_ ?_ <;> intro _) | fail)
        refine cont_map (fun _ h => relP_ext hQ2 (b := b) (r := (r1.doOp ⟨qk, qt, qrow⟩).1) (Take.out1 (A := relP Q1 b (r1.doOp ⟨qk, qt, qrow⟩).1) takeD h)) ?_
        refine cont_map (fun _ h => relP_ext (hQ1.trans hQ2) (b := bc) (r := r2) (Take.out1 (A := relP Q bc r2) takeD h)) ?_
        refine cont_map (fun _ h => rfP_ext (hQ1.trans hQ2) (b := bxc) (r := r2) (Take.out1 (A := rfP Q bxc r2) takeD h)) ?_
        refine cont_map (L' := [Q2, relP Q2 b (r1.doOp ⟨qk, qt, qrow⟩).1, rfP Q2 bx (r1.doOp ⟨qk, qt, qrow⟩).1, relP Q2 bc r2, rfP Q2 bxc r2, pts b3 (.cells [.slice ps (ts.map tbV).length cs].toArray 24)] ++ R) entD ?_
        refine cont_back (k + 1, ⟨((r1.doOp ⟨qk, qt, qrow⟩).1, r2, Q2), ⟨hokn, hwn, hsn'⟩, ⟨ok2, wf2, s2⟩, hEQ.trans (hQ1.trans hQ2)⟩) ⟨h0, ⟨rfl, rfl, rfl, rfl, rfl, rfl, trivial⟩, rfl⟩ (by show more.length - (k + 1) < more.length - k; omega)
      | false =>
        have hdo := relDo_spec bc r2 ⟨qk, qt, qrow⟩ qv Q ok2 hUQ hvw hqv hwfo (by show qrow.length ≤ _; omega)
        have hokn := ok2.doOp ⟨qk, qt, qrow⟩
        have hsn' : (r2.doOp ⟨qk, qt, qrow⟩).1.s = ts.map Tb.c := (doOp_s' r2 _).trans s2
        have hwn := doOp_wf' wf2 (o := ⟨qk, qt, qrow⟩) hwfo
        repeat' (first | (refine go_Y ?_; intros) | (refine gs_Y ?_ ?_ <;> (intro hgd; try (simp only [Bool.not_true, Bool.not_false] at hgd))) | (refine gc_Y ?_ ?_ <;> intro _) | fail)
        refine cl_Y (hdo) ?_
        rintro ⟨⟨b4, hb4⟩, ⟨a4, ha4⟩, Q1⟩ ⟨hQ1, _⟩
        dsimp only at hQ1 ⊢
        have hvP1 := hQ1.vw hvP
        have hd2 := do14_spec bxc r2 ⟨qk, qt, qrow⟩ qv Q1 ok2 wf2 (hUQ.ext hQ1) (hQ1.vw hvw) hqv hwfo
        repeat' (first | (refine go_Y ?_; intros) | (refine gs_Y ?_ ?_ <;> (intro hgd; try (simp only [Bool.not_true, Bool.not_false] at hgd))) | (refine gc_Y ?_ ?_ <;> intro _) | fail)
        refine opsL_mapL (fun _ h => rfP_ext hQ1 (b := bxc) (r := r2) (Take.out1 (A := rfP Q bxc r2) takeD h)) ?_
        repeat' (first | (refine go_Y ?_; intros) | (refine gs_Y ?_ ?_ <;> (intro hgd; try (simp only [Bool.not_true, Bool.not_false] at hgd))) | (refine gc_Y ?_ ?_ <;> intro _) | fail)
        refine cl_Y (hd2) ?_
        rintro ⟨⟨b5, hb5⟩, ⟨a5, ha5⟩, Q2⟩ ⟨hQ2, _⟩
        dsimp only at hQ2 ⊢
        repeat' (first | (refine go_Y ?_; intros) | (refine gs_Y ?_ ?_ <;> (intro hgd; try (simp only [Bool.not_true, Bool.not_false] at hgd))) | (refine gc_Y ?_ ?_ <;> intro _) | fail)
        refine cont_map (fun _ h => relP_ext hQ2 (b := bc) (r := (r2.doOp ⟨qk, qt, qrow⟩).1) (Take.out1 (A := relP Q1 bc (r2.doOp ⟨qk, qt, qrow⟩).1) takeD h)) ?_
        refine cont_map (fun _ h => relP_ext (hQ1.trans hQ2) (b := b) (r := r1) (Take.out1 (A := relP Q b r1) takeD h)) ?_
        refine cont_map (fun _ h => rfP_ext (hQ1.trans hQ2) (b := bx) (r := r1) (Take.out1 (A := rfP Q bx r1) takeD h)) ?_
        refine cont_map (L' := [Q2, relP Q2 b r1, rfP Q2 bx r1, relP Q2 bc (r2.doOp ⟨qk, qt, qrow⟩).1, rfP Q2 bxc (r2.doOp ⟨qk, qt, qrow⟩).1, pts b3 (.cells [.slice ps (ts.map tbV).length cs].toArray 24)] ++ R) entD ?_
        refine cont_back (k + 1, ⟨(r1, (r2.doOp ⟨qk, qt, qrow⟩).1, Q2), ⟨ok1, wf1, s1⟩, ⟨hokn, hwn, hsn'⟩, hEQ.trans (hQ1.trans hQ2)⟩) ⟨h0, ⟨rfl, rfl, rfl, rfl, rfl, rfl, trivial⟩, rfl⟩ (by show more.length - (k + 1) < more.length - k; omega)
    | false =>
      refine ok_map (L' := [rfP Q bx r1, relP Q b r1, rfP Q bxc r2, relP Q bc r2, Q] ++ R) entD ?_
      refine ok_ex .here ?_
      rintro ⟨⟨vs1, ts1, vr1, q1⟩, hy1⟩
      unfold rfL
      dsimp only
      refine ok_map (L' := [rfP Q bxc r2, relP Q b r1, pts bx (.cells [vs1, vr1, .int .u64 r1.turns].toArray 47), row 114 2 vr1 (q1.map rrV), relP Q bc r2, Q] ++ R) entD ?_
      refine ok_ex .here ?_
      rintro ⟨⟨vs2, ts2, vr2, q2⟩, hy2⟩
      unfold rfL
      dsimp only
      have ha1 := lall_spec b bx r1 Q vs1 vr1 ts1 q1 ok1 wf1 hy1
      repeat' (first | (refine go_Y ?_; intros) | (refine gs_Y ?_ ?_ <;> (intro hgd; try (simp only [Bool.not_true, Bool.not_false] at hgd))) | (refine gc_Y ?_ ?_ <;> intro _) | fail)
      (apply ok_draw [10, 19]; (focus (kernel_rfl)); (focus ((conv => lhs; whnf); first | done | rfl)); (focus (decide +kernel)); (focus (exact (fun _ h => h))))
      repeat' (first | (refine go_Y ?_; intros) | (refine gs_Y ?_ ?_ <;> (intro hgd; try (simp only [Bool.not_true, Bool.not_false] at hgd))) | (refine gc_Y ?_ ?_ <;> intro _) | fail)
      refine cl_Y (ha1) ?_
      intro Q1 hQ1
      refine opsL_mapL (fun _ h => relP_ext hQ1 (b := bc) (r := r2) (Take.out1 (A := relP Q bc r2) takeD h)) ?_
      repeat' (first | (refine go_Y ?_; intros) | (refine gs_Y ?_ ?_ <;> (intro hgd; try (simp only [Bool.not_true, Bool.not_false] at hgd))) | (refine gc_Y ?_ ?_ <;> intro _) | fail)
      have ha2 := lall_spec bc bxc r2 Q1 vs2 vr2 ts2 q2 ok2 wf2 (hy2.ext hQ1)
      refine clW_Y ([pts bx (.cells [vs1, vr1, .int .u64 r1.turns].toArray 47), pts bxc (.cells [vs2, vr2, .int .u64 r2.turns].toArray 47)]) (ha2) ?_
      intro Q2 hQ2
      repeat' (first | (refine go_Y ?_; intros) | (refine gs_Y ?_ ?_ <;> (intro hgd; try (simp only [Bool.not_true, Bool.not_false] at hgd))) | (refine gc_Y ?_ ?_ <;> intro _) | fail)
      refine clN_Y (relTurns_spec b r1 Q1) ?_
      intro _ _
      repeat' (first | (refine go_Y ?_; intros) | (refine gs_Y ?_ ?_ <;> (intro hgd; try (simp only [Bool.not_true, Bool.not_false] at hgd))) | (refine gc_Y ?_ ?_ <;> intro _) | fail)
      refine clN_Y (relTurns_spec bc r2 Q2) ?_
      intro _ _
      repeat' (first | (refine go_Y ?_; intros) | (refine gs_Y ?_ ?_ <;> (intro hgd; try (simp only [Bool.not_true, Bool.not_false] at hgd))) | (refine gc_Y ?_ ?_ <;> intro _) | fail)
      refine cl_Y (alive14_spec Q2 ((hUQ.ext hQ1).ext hQ2)) ?_
      intro _ _
      repeat' (first | (refine go_Y ?_; intros) | (refine gs_Y ?_ ?_ <;> (intro hgd; try (simp only [Bool.not_true, Bool.not_false] at hgd))) | (refine gc_Y ?_ ?_ <;> intro _) | fail)
      (refine rt_Y (y := Q2) (hrs := Tryz.results3) (hv := ?_) (hφ := ?_))
      · rfl
      · exact hEQ.trans (hQ1.trans hQ2)
end Go.Proofs.YtbagfdolcabniaaGreatDoor
