/- The law RelPlays (layer 14). -/
import Derived.Test.YtbagfdolcabniaaGreatDoorG14
import Derived.Test.YtbagfdolcabniaaGreatDoorL14E
import Derived.Test.YtbagfdolcabniaaGreatDoorRkP
import Derived.Test.YtbagfdolcabniaaGreatDoorQcO
-- @DEFS Y
set_option linter.unusedSimpArgs false
set_option linter.unusedVariables false
set_option maxRecDepth 100000
namespace Go.Proofs.YtbagfdolcabniaaGreatDoor
open Go Go.Fx Go.Proofs Go.Pl

abbrev GR (ts : List Tb) (P1 : HProp) := { x : Rl × HProp // x.1.Ok ∧ Rl.Wf x.1 ∧ Ext P1 x.2 }
def v77 : List Value := [.int .u8 77, .int .i64 0, .int .u64 0, .string ⟨#[]⟩]
set_option maxHeartbeats 16000000 in
theorem RelPlays_spec (vs vo : Value) (ts : List Tb) (ops : List Om) (t : Int) (k : Vl) (A : HProp) (hU : UT A) (hvc : vs.oneCell' = true) (h : SVr A vs ts) (ho : OsR A vo ops) (hwops : ∀ q ∈ ops, ∀ v ∈ q.row, v.wf) (hkw : k.wf) :
    FSpec Tryz.prog 4 [.agg #[vs], vo, .int .i64 t, .agg (valV k).toArray] [A] HProp (fun P' => Ext A P') (fun _ => .bool true) (fun P' => [P']) := by
  have hzo := ho.len
  have hvops := ho.vw
  have hkt := hkw.t
  have hopops := fun q (hq : q ∈ ops) => (ho.op q hq).vw
  have lmo : (ops.map opV).length = ops.length := by simp
  have hh1 := heavy14_spec vs vo ts ops A h ho
  have hlook := fun b bx r Q (h1 : r.Ok) (h2 : Rl.Wf r) (h3 : UT Q) => looks_spec b bx r t k Q h1 h2 h3 hkw
  obtain ⟨kk, ki, kr, ks⟩ := k
  dsimp only [valV] at hlook hkt ⊢
  refine spec_intro [] _ Tryz.func4 rfl Tryz.ntmps4 (by rfl) (fun w0 R => ?_)
  refine ok_learn (VwIn.slice (VwIn.here hvops)) ?_
  rintro ⟨pv, cv, rfl⟩
  refine ok_learn (VwIn.slice (VwIn.here h.vw)) ?_
  rintro ⟨ps, cs, rfl⟩
  repeat' (first | (refine go_Y ?_; intros) | (refine gs_Y ?_ ?_ <;> (intro hgd; try (simp only [Bool.not_true, Bool.not_false] at hgd))) | (refine gc_Y ?_ ?_ <;> intro _) | fail)
  rename_i b4 b7
  refine cl_Y (hh1) ?_
  intro y1 hlg
  cases y1 with
  | true =>
    repeat' (first | (refine go_Y ?_; intros) | (refine gs_Y ?_ ?_ <;> (intro hgd; try (simp only [Bool.not_true, Bool.not_false] at hgd))) | (refine gc_Y ?_ ?_ <;> intro _) | fail)
    refine cl_Y (alive14_spec A hU) ?_
    intro _ _
    repeat' (first | (refine go_Y ?_; intros) | (refine gs_Y ?_ ?_ <;> (intro hgd; try (simp only [Bool.not_true, Bool.not_false] at hgd))) | (refine gc_Y ?_ ?_ <;> intro _) | fail)
    (refine rt_Y (y := A) (hrs := Tryz.results4) (hv := ?_) (hφ := ?_))
    · rfl
    · exact Ext.refl A
  | false =>
  have hsm := hlg rfl
  cases u1 : decide ((4096 : Int) < (ks.size : Int)) with
  | true =>
    repeat' (first | (refine go_Y ?_; intros) | (refine gs_Y ?_ ?_ <;> (intro hgd; try (simp only [Bool.not_true, Bool.not_false] at hgd))) | (refine gc_Y ?_ ?_ <;> intro _) | fail)
    refine cl_Y (alive14_spec A hU) ?_
    intro _ _
    repeat' (first | (refine go_Y ?_; intros) | (refine gs_Y ?_ ?_ <;> (intro hgd; try (simp only [Bool.not_true, Bool.not_false] at hgd))) | (refine gc_Y ?_ ?_ <;> intro _) | fail)
    (refine rt_Y (y := A) (hrs := Tryz.results4) (hv := ?_) (hφ := ?_))
    · rfl
    · exact Ext.refl A
  | false =>
  have hsv := h.sv hsm.1
  have hcp := copy13_spec (.slice ps (ts.map tbV).length cs) ts A hsv (by have := hsm.1.1; omega) (fun t ht => by have := hsm.1.2 t ht; omega)
  have hmay := rMay_spec (.slice ps (ts.map tbV).length cs) ts A hvc hsv
  repeat' (first | (refine go_Y ?_; intros) | (refine gs_Y ?_ ?_ <;> (intro hgd; try (simp only [Bool.not_true, Bool.not_false] at hgd))) | (refine gc_Y ?_ ?_ <;> intro _) | fail)
  refine cl_Y (hcp) ?_
  rintro ⟨⟨v', hv'⟩, ts', P0⟩ ⟨hsv', hmap', hE0⟩
  dsimp only at hsv' hmap' hE0 ⊢
  have hU0 := hU.ext hE0
  cases hck : checkS (ts.map Tb.c) with
  | false =>
    have hnb := new_bad v' ts' P0 hsv' (by rw [hmap']; exact hck)
    have hmay0 := rMay_spec (.slice ps (ts.map tbV).length cs) ts P0 hvc (hsv.ext hE0)
    rw [hck] at hmay0
    repeat' (first | (refine go_Y ?_; intros) | (refine gs_Y ?_ ?_ <;> (intro hgd; try (simp only [Bool.not_true, Bool.not_false] at hgd))) | (refine gc_Y ?_ ?_ <;> intro _) | fail)
    refine cl_Y (hnb) ?_
    intro _ _
    repeat' (first | (refine go_Y ?_; intros) | (refine gs_Y ?_ ?_ <;> (intro hgd; try (simp only [Bool.not_true, Bool.not_false] at hgd))) | (refine gc_Y ?_ ?_ <;> intro _) | fail)
    refine cl_Y (hmay0) ?_
    intro _ _
    repeat' (first | (refine go_Y ?_; intros) | (refine gs_Y ?_ ?_ <;> (intro hgd; try (simp only [Bool.not_true, Bool.not_false] at hgd))) | (refine gc_Y ?_ ?_ <;> intro _) | fail)
    refine cl_Y (alive14_spec P0 hU0) ?_
    intro _ _
    repeat' (first | (refine go_Y ?_; intros) | (refine gs_Y ?_ ?_ <;> (intro hgd; try (simp only [Bool.not_true, Bool.not_false] at hgd))) | (refine gc_Y ?_ ?_ <;> intro _) | fail)
    (refine rt_Y (y := P0) (hrs := Tryz.results4) (hv := ?_) (hφ := ?_))
    · rfl
    · exact hE0
  | true =>
  have hnew := new_spec v' ts' P0 hsv' (by rw [hmap']; exact hck)
  rw [hmap'] at hnew
  repeat' (first | (refine go_Y ?_; intros) | (refine gs_Y ?_ ?_ <;> (intro hgd; try (simp only [Bool.not_true, Bool.not_false] at hgd))) | (refine gc_Y ?_ ?_ <;> intro _) | fail)
  refine cl_Y (hnew) ?_
  rintro ⟨b, P1⟩ hE1
  dsimp only at hE1 ⊢
  have hmay1 := rMay_spec (.slice ps (ts.map tbV).length cs) ts P1 hvc (hsv.ext (hE0.trans hE1))
  rw [hck] at hmay1
  repeat' (first | (refine go_Y ?_; intros) | (refine gs_Y ?_ ?_ <;> (intro hgd; try (simp only [Bool.not_true, Bool.not_false] at hgd))) | (refine gc_Y ?_ ?_ <;> intro _) | fail)
  refine cl_Y (hmay1) ?_
  intro _ _
  repeat' (first | (refine go_Y ?_; intros) | (refine gs_Y ?_ ?_ <;> (intro hgd; try (simp only [Bool.not_true, Bool.not_false] at hgd))) | (refine gc_Y ?_ ?_ <;> intro _) | fail)
  have hn14 := new14_spec (.slice ps (ts.map tbV).length cs) ts P1 (hsv.ext (hE0.trans hE1)) (by have := hsm.1.1; omega) (fun t ht => by have := hsm.1.2 t ht; omega)
  refine cl_Y (hn14) ?_
  rintro ⟨bx, P2⟩ hE2
  dsimp only at hE2 ⊢
  refine opsL_mapL (fun _ h => relP_ext hE2 (b := b) (r := ⟨ts.map Tb.c, [], 0⟩) (Take.out1 (A := relP P1 b ⟨ts.map Tb.c, [], 0⟩) takeD h)) ?_
  have hE02 := hE0.trans (hE1.trans hE2)
  have hvo2 := hE02.vw hvops
  repeat' (first | (refine go_Y ?_; intros) | (refine gs_Y ?_ ?_ <;> (intro hgd; try (simp only [Bool.not_true, Bool.not_false] at hgd))) | (refine gc_Y ?_ ?_ <;> intro _) | fail)
  have hco := copyOps_spec (.slice pv (ops.map opV).length cv) ops P2 ⟨hvo2, fun o hq => ⟨hE02.vw (ho.op o hq).vw, (ho.op o hq).len, (ho.op o hq).txt⟩, hzo⟩ hsm.2
  refine cl_Y (hco) ?_
  rintro ⟨⟨vw, hvw⟩, own, P3⟩ ⟨hE3, hom, hmo⟩
  dsimp only at hE3 hom hmo ⊢
  refine opsL_mapL (fun _ h => relP_ext hE3 (b := b) (r := ⟨ts.map Tb.c, [], 0⟩) (Take.out1 (A := relP P2 b ⟨ts.map Tb.c, [], 0⟩) takeD h)) ?_
  refine opsL_mapL (fun _ h => rfP_ext hE3 (b := bx) (r := ⟨ts.map Tb.c, [], 0⟩) (Take.out1 (A := rfP P2 bx ⟨ts.map Tb.c, [], 0⟩) takeD h)) ?_
  have hEA := hE02.trans hE3
  have hol : own.length = ops.length := by have := congrArg List.length hmo; simpa using this
  have lmw : (own.map opV).length = own.length := by simp
  refine ops_learn (rowShapeS (e := 39) (n := 3) (v := vw) (xs := own.map opV) (by decide) takeD) ?_
  rintro ⟨pw, cw, rfl, hcw, hsw⟩
  repeat' (first | (refine go_Y ?_; intros) | (refine gs_Y ?_ ?_ <;> (intro hgd; try (simp only [Bool.not_true, Bool.not_false] at hgd))) | (refine gc_Y ?_ ?_ <;> intro _) | fail)
  have hr0 : (Rl.mk (ts.map Tb.c) [] 0).Ok := Rl.Ok.new hck
  have hw0 : Rl.Wf ⟨ts.map Tb.c, [], 0⟩ := fun x hx => by simp at hx
  refine ok_map (L' := [P3, relP P3 b ⟨ts.map Tb.c, [], 0⟩, rfP P3 bx ⟨ts.map Tb.c, [], 0⟩, row 39 3 (.slice pw (own.map opV).length cw) (own.map opV), pts b4 (.cells [.slice ps (ts.map tbV).length cs].toArray 24), pts b7 (.cells [.int .u8 kk, .int .i64 ki, .int .u64 kr, .string ks].toArray 50)] ++ R) entD ?_
  refine ok_loop' (γ := Nat × GR ts P3) (fun g ρ L => g.1 ≤ ops.length ∧ Knows ρ [(1, .slice pv (ops.map opV).length cv), (2, .int .i64 t), (4, .pointer (some ⟨b4, 0, none⟩)), (7, .pointer (some ⟨b7, 0, none⟩)), (9, .pointer (some ⟨b, 0, none⟩)), (11, .pointer (some ⟨bx, 0, none⟩)), (12, .slice pw (own.map opV).length cw), (13, .int .i64 g.1)] ∧
      L = [g.2.1.2, relP g.2.1.2 b g.2.1.1, rfP g.2.1.2 bx g.2.1.1, row 39 3 (.slice pw (own.map opV).length cw) (own.map opV), pts b4 (.cells [.slice ps (ts.map tbV).length cs].toArray 24), pts b7 (.cells [.int .u8 kk, .int .i64 ki, .int .u64 kr, .string ks].toArray 50)] ++ R) (fun g => ops.length - g.1)
    (0, ⟨(⟨ts.map Tb.c, [], 0⟩, P3), hr0, hw0, Ext.refl P3⟩) ⟨by simp, ⟨rfl, rfl, rfl, rfl, rfl, rfl, rfl, rfl, trivial⟩, rfl⟩ ?_
  rintro ⟨i, ⟨r, P⟩, hokr, hwfr, hE⟩ ρ L ⟨hi, hk, rfl⟩
  dsimp only at hokr hwfr hE hi hk ⊢
  refine ok_regs hk ?_
  have hEP := hEA.trans hE
  have hUP := hU.ext hEP
  cases t1 : decide ((i : Int) < ((ops.map opV).length : Int)) with
  | false =>
    repeat' (first | (refine go_Y ?_; intros) | (refine gs_Y ?_ ?_ <;> (intro hgd; try (simp only [Bool.not_true, Bool.not_false] at hgd))) | (refine gc_Y ?_ ?_ <;> intro _) | fail)
    refine cl_Y (lall2_spec b bx r P hokr hwfr) ?_
    intro Q hQ
    repeat' (first | (refine go_Y ?_; intros) | (refine gs_Y ?_ ?_ <;> (intro hgd; try (simp only [Bool.not_true, Bool.not_false] at hgd))) | (refine gc_Y ?_ ?_ <;> intro _) | fail)
    refine cl_Y (alive14_spec Q (hUP.ext hQ)) ?_
    intro _ _
    repeat' (first | (refine go_Y ?_; intros) | (refine gs_Y ?_ ?_ <;> (intro hgd; try (simp only [Bool.not_true, Bool.not_false] at hgd))) | (refine gc_Y ?_ ?_ <;> intro _) | fail)
    (refine rt_Y (y := Q) (hrs := Tryz.results4) (hv := ?_) (hφ := ?_))
    · rfl
    · exact hEP.trans hQ
  | true =>
    have h0 : i < ops.length := by have := of_decide_eq_true t1; omega
    have h0' : i < own.length := by omega
    have hx : (ops.map opV)[i]? = some (opV ops[i]) := by rw [List.getElem?_map, List.getElem?_eq_getElem h0]; rfl
    have hxw : (own.map opV)[i]? = some (opV own[i]) := by rw [List.getElem?_map, List.getElem?_eq_getElem h0']; rfl
    have hnn : i < (ops.map opV).length := by omega
    have hnw : i < (own.map opV).length := by omega
    have hoc : own[i].c = ops[i].c := by
      have e2 := congrArg (fun l => l[i]?) hmo
      simp only [List.getElem?_map, List.getElem?_eq_getElem h0, List.getElem?_eq_getElem h0', Option.map_some, Option.some.injEq] at e2
      exact e2
    have hmm := List.getElem_mem h0
    have hqv := hEP.vw (hopops _ hmm)
    have hqw := hE.vw (hom _ (List.getElem_mem h0')).vw
    have hwfo := hwops _ hmm
    have hln := hsm.2.2 _ hmm
    have hvP := hEP.vw hvops
    refine ok_learn (VwIn.base (n := 3) (p := pv) (len := (ops.map opV).length) (cap := cv) (xs := ops.map opV) (VwIn.here hvP) (by intro e; rw [e] at hnn; simp at hnn)) ?_
    rintro ⟨bu, ou, rfl⟩
    refine ok_learn (VwIn.base (n := 3) (p := pw) (len := (own.map opV).length) (cap := cw) (xs := own.map opV) (VwIn.there (VwIn.there (VwIn.there (VwIn.here Vw.row)))) (by intro e; rw [e] at hnw; simp at hnw)) ?_
    rintro ⟨bw, ow, rfl⟩
    generalize ops[i] = q at hx hqv hwfo hln hoc
    generalize own[i] = q' at hxw hqw hoc
    obtain ⟨qk, qt, ⟨qv, hqc⟩, ql⟩ := q
    obtain ⟨⟨qw, hqd⟩, rfl⟩ : ∃ w', q' = Om.mk qk qt w' ql := by
      obtain ⟨a, c, d, e⟩ := q'
      simp only [Om.c, Opr.mk.injEq] at hoc
      obtain ⟨rfl, rfl, rfl⟩ := hoc
      exact ⟨d, rfl⟩
    dsimp only [opV] at hx hxw hqv hqw hwfo hln
    have hdo := relDo_spec b r ⟨qk, qt, ql⟩ qw P hokr hUP hqw hqd hwfo (by show ql.length ≤ _; omega)
    have hokn := hokr.doOp ⟨qk, qt, ql⟩
    have hwn := doOp_wf' hwfr (o := ⟨qk, qt, ql⟩) hwfo
    have hdl := did_len hokr ⟨qk, qt, ql⟩ (by show ql.length ≤ _; omega)
    have hd2 := fun Q (e : Ext P Q) => do14_spec bx r ⟨qk, qt, ql⟩ qv Q hokr hwfr (hUP.ext e) (e.vw hqv) hqc hwfo
    generalize r.doOp ⟨qk, qt, ql⟩ = gg at hdo hokn hwn hdl hd2
    obtain ⟨r', bef, aft, code⟩ := gg
    dsimp only at hdo hokn hwn hdl hd2
    obtain ⟨hdl1, hdl2⟩ := hdl
    have e1 : (!decide (code = code)) = false := by simp
    repeat' (first | (refine go_Y ?_; intros) | (refine gs_Y ?_ ?_ <;> (intro hgd; try (simp only [Bool.not_true, Bool.not_false] at hgd))) | (refine gc_Y ?_ ?_ <;> intro _) | fail)
    refine cl_Y (hdo) ?_
    rintro ⟨⟨va, hva⟩, ⟨vb, hvb⟩, Q1⟩ ⟨hQ1, hvwa⟩
    dsimp only at hQ1 hvwa ⊢
    refine opsL_mapL (fun _ h => rfP_ext hQ1 (b := bx) (r := r) (Take.out1 (A := rfP P bx r) takeD h)) ?_
    have hvQ := hQ1.vw hvP
    repeat' (first | (refine go_Y ?_; intros) | (refine gs_Y ?_ ?_ <;> (intro hgd; try (simp only [Bool.not_true, Bool.not_false] at hgd))) | (refine gc_Y ?_ ?_ <;> intro _) | fail)
    refine cl_Y (hd2 Q1 hQ1) ?_
    rintro ⟨⟨vc, hvc2⟩, ⟨vd, hvd⟩, Q2⟩ ⟨hQ2, hvwc⟩
    dsimp only at hQ2 hvwc ⊢
    refine opsL_mapL (fun _ h => relP_ext hQ2 (b := b) (r := r') (Take.out1 (A := relP Q1 b r') takeD h)) ?_
    refine ops_learn (rowShapeS (e := 50) (n := 4) (v := vb) (xs := aft.map valV) (by decide) takeD) ?_
    rintro ⟨pb, cb, rfl, hcb, hsb⟩
    have hvQ2 := hQ2.vw hvQ
    have s1 := same04Q_spec bef bef va vc Q2 (hQ2.vw hvwa) hvwc (by omega)
    have s2 := same04_spec aft aft (.slice pb (aft.map valV).length cb) vd (row 50 4 (.slice pb (aft.map valV).length cb) (aft.map valV)) (row 50 4 vd (aft.map valV)) Vw.row Vw.row (by omega)
    have s3 := same04Q_spec ql ql qw qv Q2 ((hQ1.trans hQ2).vw hqw) ((hQ1.trans hQ2).vw hqv) (by omega)
    rw [show decide (bef = bef) = true from by simp] at s1
    rw [show decide (aft = aft) = true from by simp] at s2
    rw [show decide (ql = ql) = true from by simp] at s3
    repeat' (first | (refine go_Y ?_; intros) | (refine gs_Y ?_ ?_ <;> (intro hgd; try (simp only [Bool.not_true, Bool.not_false] at hgd))) | (refine gc_Y ?_ ?_ <;> intro _) | fail)
    refine cl_Y (s1) ?_
    intro _ _
    repeat' (first | (refine go_Y ?_; intros) | (refine gs_Y ?_ ?_ <;> (intro hgd; try (simp only [Bool.not_true, Bool.not_false] at hgd))) | (refine gc_Y ?_ ?_ <;> intro _) | fail)
    refine cl_Y (s2) ?_
    intro _ _
    repeat' (first | (refine go_Y ?_; intros) | (refine gs_Y ?_ ?_ <;> (intro hgd; try (simp only [Bool.not_true, Bool.not_false] at hgd))) | (refine gc_Y ?_ ?_ <;> intro _) | fail)
    refine cl_Y (s3) ?_
    intro _ _
    repeat' (first | (refine go_Y ?_; intros) | (refine gs_Y ?_ ?_ <;> (intro hgd; try (simp only [Bool.not_true, Bool.not_false] at hgd))) | (refine gc_Y ?_ ?_ <;> intro _) | fail)
    have lb : (aft.map valV).length = aft.length := by simp
    refine ok_map (L' := [Q2, relP Q2 b r', rfP Q2 bx r', row 50 4 (.slice pb (aft.map valV).length cb) (aft.map valV), row 39 3 (.slice (some ⟨bw, ow, none⟩) (own.map opV).length cw) (own.map opV), pts b4 (.cells [.slice ps (ts.map tbV).length cs].toArray 24), pts b7 (.cells [.int .u8 kk, .int .i64 ki, .int .u64 kr, .string ks].toArray 50)] ++ R) entD ?_
    refine ok_loop' (γ := Nat × List (List Value)) (fun g ρ L => g.1 ≤ aft.length ∧ g.2.length = aft.length ∧ Knows ρ [(1, .slice (some ⟨bu, ou, none⟩) (ops.map opV).length cv), (2, .int .i64 t), (4, .pointer (some ⟨b4, 0, none⟩)), (7, .pointer (some ⟨b7, 0, none⟩)), (9, .pointer (some ⟨b, 0, none⟩)), (11, .pointer (some ⟨bx, 0, none⟩)), (12, .slice (some ⟨bw, ow, none⟩) (own.map opV).length cw), (13, .int .i64 i), (15, .slice pb (aft.map valV).length cb), (20, .int .i64 g.1)] ∧
        L = [Q2, relP Q2 b r', rfP Q2 bx r', row 50 4 (.slice pb (aft.map valV).length cb) g.2, row 39 3 (.slice (some ⟨bw, ow, none⟩) (own.map opV).length cw) (own.map opV), pts b4 (.cells [.slice ps (ts.map tbV).length cs].toArray 24), pts b7 (.cells [.int .u8 kk, .int .i64 ki, .int .u64 kr, .string ks].toArray 50)] ++ R) (fun g => aft.length - g.1)
      (0, aft.map valV) ⟨by simp, lb, ⟨rfl, rfl, rfl, rfl, rfl, rfl, rfl, rfl, rfl, rfl, trivial⟩, rfl⟩ ?_
    rintro ⟨m, xs⟩ ρ L ⟨hm, hxs, hk, rfl⟩
    dsimp only at hm hxs hk ⊢
    refine ok_regs hk ?_
    cases t2 : decide ((m : Int) < ((aft.map valV).length : Int)) with
    | true =>
      have hm0 : m < aft.length := by have := of_decide_eq_true t2; omega
      have hmx : m < xs.length := by omega
      refine ok_learn (rowShape (e := 50) (n := 4) (v := .slice pb (aft.map valV).length cb) (xs := xs) (by decide) takeD) ?_
      rintro (⟨e9, e8⟩ | ⟨g9, c9, e9, _⟩)
      · rw [e8] at hmx; simp at hmx
      simp only [Value.slice.injEq] at e9
      obtain ⟨rfl, _, rfl⟩ := e9
      repeat' (first | (refine go_Y ?_; intros) | (refine gs_Y ?_ ?_ <;> (intro hgd; try (simp only [Bool.not_true, Bool.not_false] at hgd))) | (refine gc_Y ?_ ?_ <;> intro _) | fail)
      refine cont_map (L' := [Q2, relP Q2 b r', rfP Q2 bx r', row 50 4 (.slice (some ⟨g9, 0, none⟩) (aft.map valV).length cb) (xs.set m v77), row 39 3 (.slice (some ⟨bw, ow, none⟩) (own.map opV).length cw) (own.map opV), pts b4 (.cells [.slice ps (ts.map tbV).length cs].toArray 24), pts b7 (.cells [.int .u8 kk, .int .i64 ki, .int .u64 kr, .string ks].toArray 50)] ++ R) (by unfold v77; exact entD) ?_
      refine cont_back (m + 1, xs.set m v77) ⟨hm0, by dsimp only; rw [List.length_set]; exact hxs, ⟨rfl, rfl, rfl, rfl, rfl, rfl, rfl, rfl, rfl, rfl, trivial⟩, rfl⟩ (by show aft.length - (m + 1) < aft.length - m; omega)
    | false =>
      have hUQ := (hUP.ext hQ1).ext hQ2
      repeat' (first | (refine go_Y ?_; intros) | (refine gs_Y ?_ ?_ <;> (intro hgd; try (simp only [Bool.not_true, Bool.not_false] at hgd))) | (refine gc_Y ?_ ?_ <;> intro _) | fail)
      refine cl_Y (hlook b bx r' Q2 hokn hwn hUQ) ?_
      intro Q3 hQ3
      repeat' (first | (refine go_Y ?_; intros) | (refine gs_Y ?_ ?_ <;> (intro hgd; try (simp only [Bool.not_true, Bool.not_false] at hgd))) | (refine gc_Y ?_ ?_ <;> intro _) | fail)
      refine cont_map (L' := [Q3, relP Q3 b r', rfP Q3 bx r', row 39 3 (.slice (some ⟨bw, ow, none⟩) (own.map opV).length cw) (own.map opV), pts b4 (.cells [.slice ps (ts.map tbV).length cs].toArray 24), pts b7 (.cells [.int .u8 kk, .int .i64 ki, .int .u64 kr, .string ks].toArray 50)] ++ R) entD ?_
      refine cont_back (i + 1, ⟨(r', Q3), hokn, hwn, hE.trans (hQ1.trans (hQ2.trans hQ3))⟩) ⟨h0, ⟨rfl, rfl, rfl, rfl, rfl, rfl, rfl, rfl, trivial⟩, rfl⟩ (by show ops.length - (i + 1) < ops.length - i; omega)
end Go.Proofs.YtbagfdolcabniaaGreatDoor
