/- The law TxnGets (layer 15). -/
import Derived.Test.YtbagfdolcabniaaDoorTxH
import Derived.Test.YtbagfdolcabniaaDoorG6
-- @DEFS Y
set_option linter.unusedSimpArgs false
set_option linter.unusedVariables false
set_option maxRecDepth 100000
set_option pp.deepTerms true
set_option pp.maxSteps 200000
namespace Go.Proofs.YtbagfdolcabniaaDoor
open Go Go.Fx Go.Proofs Go.Pl

theorem doT_own {x : Tx} (hov : x.over = false) (hl : x.l.length < 60) (o : Opr) : (x.doT o).2 = (x.own.doOp o).2.2.2 ∧ (x.doT o).1.own = (x.own.doOp o).1 ∧ (x.doT o).1.over = false ∧ (x.doT o).1.l.length ≤ x.l.length + 1 := by
  unfold Tx.doT
  rw [hov, if_neg (by simp), if_neg (by omega)]
  rcases doOp_did x.own o with ⟨h0, e, _⟩ | ⟨h0, _⟩
  · rw [if_pos h0]
    exact ⟨rfl, e.symm, hov, Nat.le_succ _⟩
  · rw [if_neg (by rw [h0]; simp)]
    exact ⟨h0.symm, rfl, rfl, by dsimp only; rw [List.length_append]; simp⟩
theorem doOp_s {r : Rl} (o : Opr) : (r.doOp o).1.s = r.s := by
  rcases doOp_did r o with ⟨_, e, _⟩ | ⟨_, p, d⟩
  · rw [e]
  · exact d.s
abbrev GT (P1 : HProp) := { g : Nat × Tx × HProp // g.2.1.Ok ∧ g.2.1.over = false ∧ g.2.1.l.length ≤ g.1 ∧ Ext P1 g.2.2 }
set_option maxHeartbeats 4000000 in
theorem TxnGets_spec (vs v1 v2 : Value) (ts : List Tb) (o1 o2 : List Om) (table : Int) (key : Vl) (A : HProp) (hU : UT A) (hvc : vs.oneCell' = true) (h : SVr A vs ts) (ho1 : OsR A v1 o1) (ho2 : OsR A v2 o2)
    (hw1 : ∀ q ∈ o1, ∀ v ∈ q.row, v.wf) (hw2 : ∀ q ∈ o2, ∀ v ∈ q.row, v.wf) (hwk : key.wf) :
    FSpec Tryd.prog 4 [.agg #[vs], v1, v2, .int .i64 table, .agg (valV key).toArray] [A] HProp (fun P' => Ext A P') (fun _ => .bool true) (fun P' => [P']) := by
  have hv1 := ho1.vw
  have hv2 := ho2.vw
  have hz1 := ho1.len
  have hz2 := ho2.len
  have hkt := hwk.t
  have lm1 : (o1.map opV).length = o1.length := by simp
  have lm2 : (o2.map opV).length = o2.length := by simp
  obtain ⟨kk, ki, kr, kt⟩ := key
  dsimp only [valV] at *
  have hh1 := heavy14_spec vs v1 ts o1 A h ho1
  have hh2 := heavy14_spec vs v2 ts o2 A h ho2
  refine spec_intro [] _ Tryd.func4 rfl Tryd.ntmps4 (by rfl) (fun w0 R => ?_)
  refine ok_learn (VwIn.slice (VwIn.here hv1)) ?_
  rintro ⟨pv, cv, rfl⟩
  refine ok_learn (VwIn.slice (VwIn.here hv2)) ?_
  rintro ⟨pu, cu, rfl⟩
  refine ok_learn (VwIn.slice (VwIn.here h.vw)) ?_
  rintro ⟨ps, cs, rfl⟩
  have lt : (ts.map tbV).length = ts.length := by simp
  repeat' (first | (refine go_Y ?_; intros) | (refine gs_Y ?_ ?_ <;> (intro hgd; try (simp only [Bool.not_true, Bool.not_false] at hgd))) | (refine gc_Y ?_ ?_ <;> intro _) | fail)
  rename_i b1 b3
  refine cl_Y (hh1) ?_
  intro y1 hlg
  cases y1 with
  | true =>
    repeat' (first | (refine go_Y ?_; intros) | (refine gs_Y ?_ ?_ <;> (intro hgd; try (simp only [Bool.not_true, Bool.not_false] at hgd))) | (refine gc_Y ?_ ?_ <;> intro _) | fail)
    refine cl_Y (alive15_spec A hU) ?_
    intro P' hE
    repeat' (first | (refine go_Y ?_; intros) | (refine gs_Y ?_ ?_ <;> (intro hgd; try (simp only [Bool.not_true, Bool.not_false] at hgd))) | (refine gc_Y ?_ ?_ <;> intro _) | fail)
    (refine rt_Y (y := P') (hrs := Tryd.results4) (hv := ?_) (hφ := ?_))
    · rfl
    · exact hE
  | false =>
    have hsm := hlg rfl
    repeat' (first | (refine go_Y ?_; intros) | (refine gs_Y ?_ ?_ <;> (intro hgd; try (simp only [Bool.not_true, Bool.not_false] at hgd))) | (refine gc_Y ?_ ?_ <;> intro _) | fail)
    refine cl_Y (hh2) ?_
    intro y2 hlh
    cases y2 with
    | true =>
      repeat' (first | (refine go_Y ?_; intros) | (refine gs_Y ?_ ?_ <;> (intro hgd; try (simp only [Bool.not_true, Bool.not_false] at hgd))) | (refine gc_Y ?_ ?_ <;> intro _) | fail)
      refine cl_Y (alive15_spec A hU) ?_
      intro P' hE
      repeat' (first | (refine go_Y ?_; intros) | (refine gs_Y ?_ ?_ <;> (intro hgd; try (simp only [Bool.not_true, Bool.not_false] at hgd))) | (refine gc_Y ?_ ?_ <;> intro _) | fail)
      (refine rt_Y (y := P') (hrs := Tryd.results4) (hv := ?_) (hφ := ?_))
      · rfl
      · exact hE
    | false =>
      have hsm2 := hlh rfl
      cases u1 : decide ((4096 : Int) < (kt.size : Int)) with
      | true =>
        repeat' (first | (refine go_Y ?_; intros) | (refine gs_Y ?_ ?_ <;> (intro hgd; try (simp only [Bool.not_true, Bool.not_false] at hgd))) | (refine gc_Y ?_ ?_ <;> intro _) | fail)
        refine cl_Y (alive15_spec A hU) ?_
        intro P' hE
        repeat' (first | (refine go_Y ?_; intros) | (refine gs_Y ?_ ?_ <;> (intro hgd; try (simp only [Bool.not_true, Bool.not_false] at hgd))) | (refine gc_Y ?_ ?_ <;> intro _) | fail)
        (refine rt_Y (y := P') (hrs := Tryd.results4) (hv := ?_) (hφ := ?_))
        · rfl
        · exact hE
      | false =>
        have hsv := h.sv hsm.1
        cases hck : checkS (ts.map Tb.c) with
        | false =>
          have hnew := new_bad (.slice ps (ts.map tbV).length cs) ts A hsv hck
          repeat' (first | (refine go_Y ?_; intros) | (refine gs_Y ?_ ?_ <;> (intro hgd; try (simp only [Bool.not_true, Bool.not_false] at hgd))) | (refine gc_Y ?_ ?_ <;> intro _) | fail)
          refine cl_Y (hnew) ?_
          intro _ _
          repeat' (first | (refine go_Y ?_; intros) | (refine gs_Y ?_ ?_ <;> (intro hgd; try (simp only [Bool.not_true, Bool.not_false] at hgd))) | (refine gc_Y ?_ ?_ <;> intro _) | fail)
          refine cl_Y (alive15_spec A hU) ?_
          intro P' hE
          repeat' (first | (refine go_Y ?_; intros) | (refine gs_Y ?_ ?_ <;> (intro hgd; try (simp only [Bool.not_true, Bool.not_false] at hgd))) | (refine gc_Y ?_ ?_ <;> intro _) | fail)
          (refine rt_Y (y := P') (hrs := Tryd.results4) (hv := ?_) (hφ := ?_))
          · rfl
          · exact hE
        | true =>
          have hnew := new_spec (.slice ps (ts.map tbV).length cs) ts A hsv hck
          have hop1 : ∀ o ∈ o1, Vw A 4 o.rv.1 (o.row.map valV) := fun o hq => (ho1.op o hq).vw
          have hop2 : ∀ o ∈ o2, Vw A 4 o.rv.1 (o.row.map valV) := fun o hq => (ho2.op o hq).vw
          clear hh1 hh2 hlg hlh ho1 ho2 h
          repeat' (first | (refine go_Y ?_; intros) | (refine gs_Y ?_ ?_ <;> (intro hgd; try (simp only [Bool.not_true, Bool.not_false] at hgd))) | (refine gc_Y ?_ ?_ <;> intro _) | fail)
          refine cl_Y (hnew) ?_
          rintro ⟨b, P1⟩ hE1
          dsimp only at hE1 ⊢
          have hU1 := hU.ext hE1
          repeat' (first | (refine go_Y ?_; intros) | (refine gs_Y ?_ ?_ <;> (intro hgd; try (simp only [Bool.not_true, Bool.not_false] at hgd))) | (refine gc_Y ?_ ?_ <;> intro _) | fail)
          refine ok_map (L' := [relP P1 b ⟨ts.map Tb.c, [], 0⟩, P1, pts b3 (.cells [.int .u8 kk, .int .i64 ki, .int .u64 kr, .string kt].toArray 31)] ++ R) entD ?_
          refine ok_loop' (γ := Nat × GK ts P1) (fun g ρ L => g.1 ≤ o1.length ∧ Knows ρ [(1, .slice pv (o1.map opV).length cv), (2, .slice pu (o2.map opV).length cu), (3, .int .i64 table), (9, .pointer (some ⟨b3, 0, none⟩)), (11, .pointer (some ⟨b, 0, none⟩)), (13, .int .i64 g.1)]
              ∧ L = [relP g.2.1.2 b g.2.1.1, g.2.1.2, pts b3 (.cells [.int .u8 kk, .int .i64 ki, .int .u64 kr, .string kt].toArray 31)] ++ R) (fun g => o1.length - g.1)
              (0, ⟨(⟨ts.map Tb.c, [], 0⟩, P1), Rl.Ok.new hck, rfl, Ext.refl P1⟩) ⟨by simp, ⟨rfl, rfl, rfl, rfl, rfl, rfl, trivial⟩, rfl⟩ ?_
          rintro ⟨i, ⟨r, P⟩, hok, hrs, hE⟩ ρ L ⟨hi, hk, rfl⟩
          dsimp only at hok hrs hE hi hk ⊢
          refine ok_regs hk ?_
          have hUP := hU1.ext hE
          have hEA := hE1.trans hE
          cases t1 : decide ((i : Int) < ((o1.map opV).length : Int)) with
          | true =>
            have h0 : i < o1.length := by have := of_decide_eq_true t1; omega
            have hti : o1[i]? = some o1[i] := List.getElem?_eq_getElem h0
            have hx : (o1.map opV)[i]? = some (opV o1[i]) := by rw [List.getElem?_map, hti]; rfl
            have hnn : i < (o1.map opV).length := by omega
            have hmm := List.getElem_mem h0
            have hvw := hEA.vw (hop1 _ hmm)
            have hwf := hw1 _ hmm
            have hln := hsm.2.2 _ hmm
            have hvP := hEA.vw hv1
            refine ok_learn (VwIn.base (VwIn.there (VwIn.here hvP)) (by intro e; rw [e] at hnn; simp at hnn)) ?_
            rintro ⟨bu, ou, rfl⟩
            generalize o1[i] = q at hx hvw hwf hln
            obtain ⟨qk, qt, ⟨qv, hqv⟩, qrow⟩ := q
            dsimp only [opV] at hx hvw hwf hln
            have hdo := relDo_spec b r ⟨qk, qt, qrow⟩ qv P hok hUP hvw hqv hwf (by show qrow.length ≤ _; omega)
            have hokn := hok.doOp ⟨qk, qt, qrow⟩
            have hsn' : (r.doOp ⟨qk, qt, qrow⟩).1.s = ts.map Tb.c := by rw [doOp_s]; exact hrs
            clear hwf hln hmm
            repeat' (first | (refine go_Y ?_; intros) | (refine gs_Y ?_ ?_ <;> (intro hgd; try (simp only [Bool.not_true, Bool.not_false] at hgd))) | (refine gc_Y ?_ ?_ <;> intro _) | fail)
            refine cl_Y (hdo) ?_
            rintro ⟨⟨b4, hb4⟩, ⟨a4, ha4⟩, P'⟩ ⟨hE', _⟩
            dsimp only at hE' ⊢
            repeat' (first | (refine go_Y ?_; intros) | (refine gs_Y ?_ ?_ <;> (intro hgd; try (simp only [Bool.not_true, Bool.not_false] at hgd))) | (refine gc_Y ?_ ?_ <;> intro _) | fail)
            refine cont_map (L' := [relP P' b (r.doOp ⟨qk, qt, qrow⟩).1, P', pts b3 (.cells [.int .u8 kk, .int .i64 ki, .int .u64 kr, .string kt].toArray 31)] ++ R) entD ?_
            refine cont_back (i + 1, ⟨((r.doOp ⟨qk, qt, qrow⟩).1, P'), hokn, hsn', hE.trans hE'⟩) ⟨h0, ⟨rfl, rfl, rfl, rfl, rfl, rfl, trivial⟩, rfl⟩ (by show o1.length - (i + 1) < o1.length - i; omega)
          | false =>
            repeat' (first | (refine go_Y ?_; intros) | (refine gs_Y ?_ ?_ <;> (intro hgd; try (simp only [Bool.not_true, Bool.not_false] at hgd))) | (refine gc_Y ?_ ?_ <;> intro _) | fail)
            have hg1 := relGet_spec b r table ⟨kk, ki, kr, kt⟩ P hok hUP hwk
            have hgl := getOp_wf (t := table) (k := ⟨kk, ki, kr, kt⟩) hok
            have hop := fun o hq => hEA.vw (hop2 o hq)
            have hvP := hEA.vw hv2
            clear hE hv1 hop1 hU1 hw1 hi hk hop2 hv2 hE1
            refine cl_Y (relCopy_spec b r P) ?_
            intro bo _
            repeat' (first | (refine go_Y ?_; intros) | (refine gs_Y ?_ ?_ <;> (intro hgd; try (simp only [Bool.not_true, Bool.not_false] at hgd))) | (refine gc_Y ?_ ?_ <;> intro _) | fail)
            refine cl_Y (hg1) ?_
            rintro ⟨was, hwas⟩ _
            repeat' (first | (refine go_Y ?_; intros) | (refine gs_Y ?_ ?_ <;> (intro hgd; try (simp only [Bool.not_true, Bool.not_false] at hgd))) | (refine gc_Y ?_ ?_ <;> intro _) | fail)
            refine cl_Y (txNew_spec b r P) ?_
            intro bt _
            repeat' (first | (refine go_Y ?_; intros) | (refine gs_Y ?_ ?_ <;> (intro hgd; try (simp only [Bool.not_true, Bool.not_false] at hgd))) | (refine gc_Y ?_ ?_ <;> intro _) | fail)
            refine ok_map (L' := [relP P b r, relP P bo r, txP P bt b ⟨r, r.turns, [], [], false⟩, P, row 31 4 was ((r.getOp table ⟨kk, ki, kr, kt⟩).1.map valV), pts b3 (.cells [.int .u8 kk, .int .i64 ki, .int .u64 kr, .string kt].toArray 31)] ++ R) entD ?_
            refine ok_loop' (γ := GT P) (fun g ρ L => g.1.1 ≤ o2.length ∧ Knows ρ [(2, .slice pu (o2.map opV).length cu), (3, .int .i64 table), (9, .pointer (some ⟨b3, 0, none⟩)), (11, .pointer (some ⟨b, 0, none⟩)), (14, .pointer (some ⟨bo, 0, none⟩)), (15, was), (16, .int .i64 (r.getOp table ⟨kk, ki, kr, kt⟩).2), (17, .pointer (some ⟨bt, 0, none⟩)), (18, .int .i64 g.1.1)]
                ∧ L = [relP g.1.2.2 b r, relP g.1.2.2 bo g.1.2.1.own, txP g.1.2.2 bt b g.1.2.1, g.1.2.2, row 31 4 was ((r.getOp table ⟨kk, ki, kr, kt⟩).1.map valV), pts b3 (.cells [.int .u8 kk, .int .i64 ki, .int .u64 kr, .string kt].toArray 31)] ++ R) (fun g => o2.length - g.1.1)
                ⟨(0, ⟨r, r.turns, [], [], false⟩, P), tx_new_ok hok, rfl, by simp, Ext.refl P⟩ ⟨by simp, ⟨rfl, rfl, rfl, rfl, rfl, rfl, rfl, rfl, rfl, trivial⟩, rfl⟩ ?_
            rintro ⟨⟨k, x, Q⟩, hxo, hov, hxl, hEQ⟩ ρ L ⟨hi, hk, rfl⟩
            dsimp only at hxo hov hxl hEQ hi hk ⊢
            refine ok_regs hk ?_
            have hUQ := hUP.ext hEQ
            cases t2 : decide ((k : Int) < ((o2.map opV).length : Int)) with
            | false =>
              repeat' (first | (refine go_Y ?_; intros) | (refine gs_Y ?_ ?_ <;> (intro hgd; try (simp only [Bool.not_true, Bool.not_false] at hgd))) | (refine gc_Y ?_ ?_ <;> intro _) | fail)
              refine cl_Y (alive15_spec Q hUQ) ?_
              intro P' hE
              repeat' (first | (refine go_Y ?_; intros) | (refine gs_Y ?_ ?_ <;> (intro hgd; try (simp only [Bool.not_true, Bool.not_false] at hgd))) | (refine gc_Y ?_ ?_ <;> intro _) | fail)
              (refine rt_Y (y := P') (hrs := Tryd.results4) (hv := ?_) (hφ := ?_))
              · rfl
              · exact (hEA.trans hEQ).trans hE
            | true =>
              cases t3 : decide ((k : Int) < 60) with
              | false =>
                repeat' (first | (refine go_Y ?_; intros) | (refine gs_Y ?_ ?_ <;> (intro hgd; try (simp only [Bool.not_true, Bool.not_false] at hgd))) | (refine gc_Y ?_ ?_ <;> intro _) | fail)
                refine cl_Y (alive15_spec Q hUQ) ?_
                intro P' hE
                repeat' (first | (refine go_Y ?_; intros) | (refine gs_Y ?_ ?_ <;> (intro hgd; try (simp only [Bool.not_true, Bool.not_false] at hgd))) | (refine gc_Y ?_ ?_ <;> intro _) | fail)
                (refine rt_Y (y := P') (hrs := Tryd.results4) (hv := ?_) (hφ := ?_))
                · rfl
                · exact (hEA.trans hEQ).trans hE
              | true =>
                have h60 : k < 60 := by have := of_decide_eq_true t3; omega
                have h0 : k < o2.length := by have := of_decide_eq_true t2; omega
                have hti : o2[k]? = some o2[k] := List.getElem?_eq_getElem h0
                have hx : (o2.map opV)[k]? = some (opV o2[k]) := by rw [List.getElem?_map, hti]; rfl
                have hnn : k < (o2.map opV).length := by omega
                have hmm := List.getElem_mem h0
                have hvw := hEQ.vw (hop _ hmm)
                have hwf := hw2 _ hmm
                have hln := hsm2.2.2 _ hmm
                have hvQ := hEQ.vw hvP
                refine ok_learn (VwIn.base (VwIn.there (VwIn.there (VwIn.there (VwIn.here hvQ)))) (by intro e; rw [e] at hnn; simp at hnn)) ?_
                rintro ⟨bu, ou, rfl⟩
                generalize o2[k] = q at hx hvw hwf hln
                obtain ⟨qk, qt, ⟨qv, hqv⟩, qrow⟩ := q
                dsimp only [opV] at hx hvw hwf hln
                have hql : qrow.length ≤ 1000000 := by omega
                obtain ⟨d1, d2, d3, d4⟩ := doT_own hov (by omega) ⟨qk, qt, qrow⟩
                have hdo := relDo_spec bo x.own ⟨qk, qt, qrow⟩ qv Q hxo.own hUQ hvw hqv hwf hql
                have htd := fun Q' (e : Ext Q Q') => txDo_spec bt b x ⟨qk, qt, qrow⟩ qv Q' hxo (hUQ.ext e) (e.vw hvw) hqv hwf hql
                have hxo' := Tx.Ok.doT hxo (o := ⟨qk, qt, qrow⟩) hql hwf
                rw [← d2] at hdo
                rw [d1] at htd
                have hgx : (x.doT ⟨qk, qt, qrow⟩).1.getT table ⟨kk, ki, kr, kt⟩ = (x.doT ⟨qk, qt, qrow⟩).1.own.getOp table ⟨kk, ki, kr, kt⟩ := by unfold Tx.getT; rw [d3, if_neg (by simp)]
                clear hln hmm d1 d2
                generalize (x.doT ⟨qk, qt, qrow⟩).1 = x' at hdo htd hxo' hgx d3 d4
                generalize (x.own.doOp ⟨qk, qt, qrow⟩).2.2.2 = e at hdo htd
                have f1 : (!decide (e = e)) = false := by simp
                have f2 : (!decide ((x'.own.getOp table ⟨kk, ki, kr, kt⟩).2 = (x'.own.getOp table ⟨kk, ki, kr, kt⟩).2)) = false := by simp
                have f3 : (!decide ((r.getOp table ⟨kk, ki, kr, kt⟩).2 = (r.getOp table ⟨kk, ki, kr, kt⟩).2)) = false := by simp
                have hgl' := getOp_wf (t := table) (k := ⟨kk, ki, kr, kt⟩) hxo'.own
                repeat' (first | (refine go_Y ?_; intros) | (refine gs_Y ?_ ?_ <;> (intro hgd; try (simp only [Bool.not_true, Bool.not_false] at hgd))) | (refine gc_Y ?_ ?_ <;> intro _) | fail)
                refine cl_Y (hdo) ?_
                rintro ⟨⟨b4, hb4⟩, ⟨a4, ha4⟩, Q'⟩ ⟨hE', _⟩
                dsimp only at hE' ⊢
                have hvQ' := hE'.vw hvQ
                refine opsL_map (fun _ h => relP_ext (b := b) (r := r) hE' (Take.out1 takeD h)) ?_
                refine opsL_map (fun _ h => txP_ext (b := bt) (bn := b) (x := x) hE' (Take.out1 takeD h)) ?_
                repeat' (first | (refine go_Y ?_; intros) | (refine gs_Y ?_ ?_ <;> (intro hgd; try (simp only [Bool.not_true, Bool.not_false] at hgd))) | (refine gc_Y ?_ ?_ <;> intro _) | fail)
                refine cl_Y (htd Q' hE') ?_
                intro Q2 hE2
                have hU2 := (hUQ.ext hE').ext hE2
                refine opsL_map (fun _ h => relP_ext (b := b) (r := r) hE2 (Take.out1 takeD h)) ?_
                refine opsL_map (fun _ h => relP_ext (b := bo) (r := x'.own) hE2 (Take.out1 takeD h)) ?_
                have hg2 := txGet_spec bt b x' table ⟨kk, ki, kr, kt⟩ Q2 hxo' hU2 hwk
                rw [hgx] at hg2
                have hg3 := relGet_spec bo x'.own table ⟨kk, ki, kr, kt⟩ Q2 hxo'.own hU2 hwk
                have hg4 := relGet_spec b r table ⟨kk, ki, kr, kt⟩ Q2 hok hU2 hwk
                repeat' (first | (refine go_Y ?_; intros) | (refine gs_Y ?_ ?_ <;> (intro hgd; try (simp only [Bool.not_true, Bool.not_false] at hgd))) | (refine gc_Y ?_ ?_ <;> intro _) | fail)
                refine cl_Y (hg2) ?_
                rintro ⟨ga, hga⟩ _
                repeat' (first | (refine go_Y ?_; intros) | (refine gs_Y ?_ ?_ <;> (intro hgd; try (simp only [Bool.not_true, Bool.not_false] at hgd))) | (refine gc_Y ?_ ?_ <;> intro _) | fail)
                refine cl_Y (hg3) ?_
                rintro ⟨gb, hgb⟩ _
                repeat' (first | (refine go_Y ?_; intros) | (refine gs_Y ?_ ?_ <;> (intro hgd; try (simp only [Bool.not_true, Bool.not_false] at hgd))) | (refine gc_Y ?_ ?_ <;> intro _) | fail)
                refine cl_Y (hg4) ?_
                rintro ⟨gc, hgc⟩ _
                have hs1 := same04_spec (x'.own.getOp table ⟨kk, ki, kr, kt⟩).1 (x'.own.getOp table ⟨kk, ki, kr, kt⟩).1 ga gb _ _ (Vw.row (e := 31)) (Vw.row (e := 31)) hgl'
                rw [decide_eq_true rfl] at hs1
                have hs2 := same04_spec (r.getOp table ⟨kk, ki, kr, kt⟩).1 (r.getOp table ⟨kk, ki, kr, kt⟩).1 was gc _ _ (Vw.row (e := 31)) (Vw.row (e := 31)) hgl
                rw [decide_eq_true rfl] at hs2
                repeat' (first | (refine go_Y ?_; intros) | (refine gs_Y ?_ ?_ <;> (intro hgd; try (simp only [Bool.not_true, Bool.not_false] at hgd))) | (refine gc_Y ?_ ?_ <;> intro _) | fail)
                refine cl_Y (hs1) ?_
                intro _ _
                repeat' (first | (refine go_Y ?_; intros) | (refine gs_Y ?_ ?_ <;> (intro hgd; try (simp only [Bool.not_true, Bool.not_false] at hgd))) | (refine gc_Y ?_ ?_ <;> intro _) | fail)
                refine cl_Y (hs2) ?_
                intro _ _
                repeat' (first | (refine go_Y ?_; intros) | (refine gs_Y ?_ ?_ <;> (intro hgd; try (simp only [Bool.not_true, Bool.not_false] at hgd))) | (refine gc_Y ?_ ?_ <;> intro _) | fail)
                refine cont_map (L' := [relP Q2 b r, relP Q2 bo x'.own, txP Q2 bt b x', Q2, row 31 4 was ((r.getOp table ⟨kk, ki, kr, kt⟩).1.map valV), pts b3 (.cells [.int .u8 kk, .int .i64 ki, .int .u64 kr, .string kt].toArray 31)] ++ R) entD ?_
                refine cont_back ⟨(k + 1, x', Q2), hxo', d3, by dsimp only; omega, (hEQ.trans hE').trans hE2⟩ ⟨h0, ⟨rfl, rfl, rfl, rfl, rfl, rfl, rfl, rfl, rfl, trivial⟩, rfl⟩ (by show o2.length - (k + 1) < o2.length - k; omega)
end Go.Proofs.YtbagfdolcabniaaDoor
