/- The law TxnPlays (layer 15). -/
import Derived.Test.YtbagfdolcabniaaGreatDoorG16
-- @DEFS Y
set_option linter.unusedSimpArgs false
set_option linter.unusedVariables false
set_option maxRecDepth 100000
namespace Go.Proofs.YtbagfdolcabniaaGreatDoor
open Go Go.Fx Go.Proofs Go.Pl

abbrev GPt (A : HProp) := { g : Tx × Rl × Nat × Nat × HProp // Pt g.1 g.2.1 ∧ Ext A g.2.2.2.2 }
set_option maxHeartbeats 16000000 in
theorem TxnPlays_spec (vs va : Value) (ts : List Tb) (az : List Am) (A : HProp) (hU : UT A) (hvc : vs.oneCell' = true) (h : SVr A vs ts) (ha : AsR A va az) (hwf : ∀ a ∈ az, ∀ v ∈ a.o.row, v.wf) :
    FSpec Tryz.prog 5 [.agg #[vs], va] [A] HProp (fun P' => Ext A P') (fun _ => .bool true) (fun P' => [P']) := by
  have hva := ha.vw
  have hza := ha.len
  have la : (az.map amV).length = az.length := by simp
  have hhv := heavy15_spec vs va ts az A h ha
  refine spec_intro [] _ Tryz.func5 rfl Tryz.ntmps5 (by rfl) (fun w0 R => ?_)
  refine ok_learn (VwIn.slice (VwIn.here hva)) ?_
  rintro ⟨pa, ca, rfl⟩
  refine ok_learn (VwIn.slice (VwIn.here h.vw)) ?_
  rintro ⟨ps, cs, rfl⟩
  repeat' (first | (refine go_Y ?_; intros) | (refine gs_Y ?_ ?_ <;> (intro hgd; try (simp only [Bool.not_true, Bool.not_false] at hgd))) | (refine gc_Y ?_ ?_ <;> intro _) | fail)
  rename_i b2
  refine cl_Y (hhv) ?_
  rintro ⟨y1, P0⟩ ⟨hE0, hlg⟩
  dsimp only at hE0 hlg ⊢
  have hU0 := hU.ext hE0
  cases y1 with
  | true =>
    repeat' (first | (refine go_Y ?_; intros) | (refine gs_Y ?_ ?_ <;> (intro hgd; try (simp only [Bool.not_true, Bool.not_false] at hgd))) | (refine gc_Y ?_ ?_ <;> intro _) | fail)
    refine cl_Y (alive15_spec P0 hU0) ?_
    intro P' hE
    repeat' (first | (refine go_Y ?_; intros) | (refine gs_Y ?_ ?_ <;> (intro hgd; try (simp only [Bool.not_true, Bool.not_false] at hgd))) | (refine gc_Y ?_ ?_ <;> intro _) | fail)
    (refine rt_Y (y := P') (hrs := Tryz.results5) (hv := ?_) (hφ := ?_))
    · rfl
    · exact hE0.trans hE
  | false =>
  obtain ⟨hsm, hso, h200⟩ := hlg rfl
  have hsv := (h.ext hE0).sv hsm
  have hmay := rMay_spec (.slice ps (ts.map tbV).length cs) ts P0 hvc hsv
  cases hck : checkS (ts.map Tb.c) with
  | false =>
    rw [hck] at hmay
    repeat' (first | (refine go_Y ?_; intros) | (refine gs_Y ?_ ?_ <;> (intro hgd; try (simp only [Bool.not_true, Bool.not_false] at hgd))) | (refine gc_Y ?_ ?_ <;> intro _) | fail)
    refine cl_Y (hmay) ?_
    intro _ _
    repeat' (first | (refine go_Y ?_; intros) | (refine gs_Y ?_ ?_ <;> (intro hgd; try (simp only [Bool.not_true, Bool.not_false] at hgd))) | (refine gc_Y ?_ ?_ <;> intro _) | fail)
    refine cl_Y (alive15_spec P0 hU0) ?_
    intro P' hE
    repeat' (first | (refine go_Y ?_; intros) | (refine gs_Y ?_ ?_ <;> (intro hgd; try (simp only [Bool.not_true, Bool.not_false] at hgd))) | (refine gc_Y ?_ ?_ <;> intro _) | fail)
    (refine rt_Y (y := P') (hrs := Tryz.results5) (hv := ?_) (hφ := ?_))
    · rfl
    · exact hE0.trans hE
  | true =>
  rw [hck] at hmay
  have hnew := new_spec (.slice ps (ts.map tbV).length cs) ts P0 hsv hck
  repeat' (first | (refine go_Y ?_; intros) | (refine gs_Y ?_ ?_ <;> (intro hgd; try (simp only [Bool.not_true, Bool.not_false] at hgd))) | (refine gc_Y ?_ ?_ <;> intro _) | fail)
  refine cl_Y (hmay) ?_
  intro _ _
  repeat' (first | (refine go_Y ?_; intros) | (refine gs_Y ?_ ?_ <;> (intro hgd; try (simp only [Bool.not_true, Bool.not_false] at hgd))) | (refine gc_Y ?_ ?_ <;> intro _) | fail)
  refine cl_Y (hnew) ?_
  rintro ⟨b, P1⟩ hE1
  dsimp only at hE1 ⊢
  repeat' (first | (refine go_Y ?_; intros) | (refine gs_Y ?_ ?_ <;> (intro hgd; try (simp only [Bool.not_true, Bool.not_false] at hgd))) | (refine gc_Y ?_ ?_ <;> intro _) | fail)
  have hn14 := new14_spec (.slice ps (ts.map tbV).length cs) ts P1 (hsv.ext hE1) (by have := hsm.1; omega) (fun t ht => by have := hsm.2 t ht; omega)
  refine cl_Y (hn14) ?_
  rintro ⟨bx, P2⟩ hE2
  dsimp only at hE2 ⊢
  refine opsL_mapL (fun _ h => relP_ext hE2 (b := b) (r := ⟨ts.map Tb.c, [], 0⟩) (Take.out1 (A := relP P1 b ⟨ts.map Tb.c, [], 0⟩) takeD h)) ?_
  repeat' (first | (refine go_Y ?_; intros) | (refine gs_Y ?_ ?_ <;> (intro hgd; try (simp only [Bool.not_true, Bool.not_false] at hgd))) | (refine gc_Y ?_ ?_ <;> intro _) | fail)
  have hr0 : (Rl.mk (ts.map Tb.c) [] 0).Ok := Rl.Ok.new hck
  have hw0 : Rl.Wf ⟨ts.map Tb.c, [], 0⟩ := fun x hx => by simp at hx
  refine cl_Y (txNew_spec b ⟨ts.map Tb.c, [], 0⟩ P2) ?_
  intro tb _
  repeat' (first | (refine go_Y ?_; intros) | (refine gs_Y ?_ ?_ <;> (intro hgd; try (simp only [Bool.not_true, Bool.not_false] at hgd))) | (refine gc_Y ?_ ?_ <;> intro _) | fail)
  refine cl_Y (rtNew_spec bx ⟨ts.map Tb.c, [], 0⟩ P2 hr0) ?_
  rintro ⟨ub, P3⟩ hE3
  dsimp only at hE3 ⊢
  refine opsL_mapL (fun _ h => relP_ext hE3 (b := b) (r := ⟨ts.map Tb.c, [], 0⟩) (Take.out1 (A := relP P2 b ⟨ts.map Tb.c, [], 0⟩) takeD h)) ?_
  refine opsL_mapL (fun _ h => txP_ext hE3 (b := tb) (bn := b) (x := ⟨⟨ts.map Tb.c, [], 0⟩, 0, [], [], false⟩) (Take.out1 (A := txP P2 tb b ⟨⟨ts.map Tb.c, [], 0⟩, 0, [], [], false⟩) takeD h)) ?_
  repeat' (first | (refine go_Y ?_; intros) | (refine gs_Y ?_ ?_ <;> (intro hgd; try (simp only [Bool.not_true, Bool.not_false] at hgd))) | (refine gc_Y ?_ ?_ <;> intro _) | fail)
  have hEA := hE0.trans (hE1.trans (hE2.trans hE3))
  refine ok_map (L' := [P3, txP P3 tb b ⟨⟨ts.map Tb.c, [], 0⟩, 0, [], [], false⟩, relP P3 b ⟨ts.map Tb.c, [], 0⟩, rtP P3 ub bx ⟨⟨ts.map Tb.c, [], 0⟩, 0, [], [], false⟩, rfP P3 bx ⟨ts.map Tb.c, [], 0⟩, pts b2 (.cells [.slice ps (ts.map tbV).length cs].toArray 24)] ++ R) entD ?_
  refine ok_loop' (γ := Nat × GPt A) (fun g ρ L => g.1 ≤ az.length ∧ Knows ρ [(1, .slice pa (az.map amV).length ca), (2, .pointer (some ⟨b2, 0, none⟩)), (5, .pointer (some ⟨b, 0, none⟩)), (6, .int .i64 0), (7, .pointer (some ⟨bx, 0, none⟩)), (8, .pointer (some ⟨g.2.1.2.2.1, 0, none⟩)), (9, .pointer (some ⟨g.2.1.2.2.2.1, 0, none⟩)), (10, .int .i64 g.1)] ∧
      L = [g.2.1.2.2.2.2, txP g.2.1.2.2.2.2 g.2.1.2.2.1 b g.2.1.1, relP g.2.1.2.2.2.2 b g.2.1.2.1, rtP g.2.1.2.2.2.2 g.2.1.2.2.2.1 bx g.2.1.1, rfP g.2.1.2.2.2.2 bx g.2.1.2.1, pts b2 (.cells [.slice ps (ts.map tbV).length cs].toArray 24)] ++ R) (fun g => az.length - g.1)
    (0, ⟨(⟨⟨ts.map Tb.c, [], 0⟩, 0, [], [], false⟩, ⟨ts.map Tb.c, [], 0⟩, tb, ub, P3), Pt.new hr0 hw0, hEA⟩) ⟨by simp, ⟨rfl, rfl, rfl, rfl, rfl, rfl, rfl, rfl, trivial⟩, rfl⟩ ?_
  rintro ⟨i, ⟨x, r, tb, ub, P⟩, hp, hE⟩ ρ L ⟨hi, hk, rfl⟩
  dsimp only at hp hE hi hk ⊢
  refine ok_regs hk ?_
  have hUP := hU.ext hE
  cases t1 : decide ((i : Int) < ((az.map amV).length : Int)) with
  | false =>
    repeat' (first | (refine go_Y ?_; intros) | (refine gs_Y ?_ ?_ <;> (intro hgd; try (simp only [Bool.not_true, Bool.not_false] at hgd))) | (refine gc_Y ?_ ?_ <;> intro _) | fail)
    refine cl_Y (alive15_spec P hUP) ?_
    intro P' hE'
    repeat' (first | (refine go_Y ?_; intros) | (refine gs_Y ?_ ?_ <;> (intro hgd; try (simp only [Bool.not_true, Bool.not_false] at hgd))) | (refine gc_Y ?_ ?_ <;> intro _) | fail)
    (refine rt_Y (y := P') (hrs := Tryz.results5) (hv := ?_) (hφ := ?_))
    · rfl
    · exact hE.trans hE'
  | true =>
    have h0 : i < az.length := by have := of_decide_eq_true t1; omega
    have hx : (az.map amV)[i]? = some (amV az[i]) := by rw [List.getElem?_map, List.getElem?_eq_getElem h0]; rfl
    have hn1 : i < (az.map amV).length := by omega
    have hmm := List.getElem_mem h0
    have hvw := hE.vw (ha.op _ hmm).vw
    have hwo := hwf _ hmm
    have hln := hso.2 az[i].o (List.mem_map_of_mem hmm)
    have hvP := hE.vw hva
    refine ok_learn (VwIn.base (n := 4) (xs := az.map amV) (VwIn.here hvP) (by intro e; rw [e] at hn1; simp at hn1)) ?_
    rintro ⟨bu, ou, rfl⟩
    generalize az[i] = q at hx hvw hwo hln
    obtain ⟨⟨qk, qt, ⟨qv, hqv⟩, ql⟩, qe⟩ := q
    dsimp only [amV] at hx hvw hwo hln
    cases c4 : decide (qe = (4 : Int)) with
    | true =>
      have c4' : (!decide (qe = (4 : Int))) = false := by rw [c4]; rfl
      repeat' (first | (refine go_Y ?_; intros) | (refine gs_Y ?_ ?_ <;> (intro hgd; try (simp only [Bool.not_true, Bool.not_false] at hgd))) | (refine gc_Y ?_ ?_ <;> intro _) | fail)
      refine cl_Y (txNew_spec b r P) ?_
      intro tb' _
      repeat' (first | (refine go_Y ?_; intros) | (refine gs_Y ?_ ?_ <;> (intro hgd; try (simp only [Bool.not_true, Bool.not_false] at hgd))) | (refine gc_Y ?_ ?_ <;> intro _) | fail)
      refine cl_Y (rtNew_spec bx r P hp.ro) ?_
      rintro ⟨ub', Q⟩ hQ
      dsimp only at hQ ⊢
      refine opsL_mapL (fun _ h => relP_ext hQ (b := b) (r := r) (Take.out1 (A := relP P b r) takeD h)) ?_
      refine opsL_mapL (fun _ h => txP_ext hQ (b := tb') (bn := b) (x := ⟨r, r.turns, [], [], false⟩) (Take.out1 (A := txP P tb' b ⟨r, r.turns, [], [], false⟩) takeD h)) ?_
      have hvQ := hQ.vw hvP
      repeat' (first | (refine go_Y ?_; intros) | (refine gs_Y ?_ ?_ <;> (intro hgd; try (simp only [Bool.not_true, Bool.not_false] at hgd))) | (refine gc_Y ?_ ?_ <;> intro _) | fail)
      refine ok_map (L' := [rtP Q ub' bx ⟨r, r.turns, [], [], false⟩, txP Q tb' b ⟨r, r.turns, [], [], false⟩, relP Q b r, rfP Q bx r, Q, pts b2 (.cells [.slice ps (ts.map tbV).length cs].toArray 24)] ++ R) entD ?_
      refine ok_ex .here ?_
      rintro ⟨⟨bo, vo, os, vl, c2⟩, hy⟩
      unfold rtL
      dsimp only
      have hch := (Pt.new hp.ro hp.wr).xo.chg
      have h60 := (Pt.new hp.ro hp.wr).xo.len
      have e6 : (!(false == false)) = false := by simp
      refine ok_drawL (cv := []) [1, 9] ([pts ub' (.cells [.pointer (some ⟨bx, 0, none⟩), .pointer (some ⟨bo, 0, none⟩), vo, vl, .bool false].toArray 68)]) (takeD) (by kernel_rfl) rfl (by decide +kernel) ?_
      repeat' (first | (refine go_Y ?_; intros) | (refine gs_Y ?_ ?_ <;> (intro hgd; try (simp only [Bool.not_true, Bool.not_false] at hgd))) | (refine gc_Y ?_ ?_ <;> intro _) | fail)
      refine clN_Y (txOver_spec tb' b ⟨r, r.turns, [], [], false⟩ Q) ?_
      intro _ _
      repeat' (first | (refine go_Y ?_; intros) | (refine gs_Y ?_ ?_ <;> (intro hgd; try (simp only [Bool.not_true, Bool.not_false] at hgd))) | (refine gc_Y ?_ ?_ <;> intro _) | fail)
      refine clN_Y (txChanges_spec tb' b ⟨r, r.turns, [], [], false⟩ Q (Pt.new hp.ro hp.wr).xo) ?_
      rintro ⟨⟨v1, hv1⟩, c1, Q1⟩ ⟨hE1, hc1, hm1⟩
      dsimp only at hE1 hc1 hm1 ⊢
      refine opsL_mapL (fun _ h => relP_ext hE1 (b := b) (r := r) (Take.out1 (A := relP Q b r) takeD h)) ?_
      refine opsL_mapL (fun _ h => rfP_ext hE1 (b := bx) (r := r) (Take.out1 (A := rfP Q bx r) takeD h)) ?_
      repeat' (first | (refine go_Y ?_; intros) | (refine gs_Y ?_ ?_ <;> (intro hgd; try (simp only [Bool.not_true, Bool.not_false] at hgd))) | (refine gc_Y ?_ ?_ <;> intro _) | fail)
      have h5 := same15T_spec c1 c2 v1 vl (row 129 4 v1 (c1.map cmV)) (row 129 4 vl (c2.map cmV)) Q1 Vw.row Vw.row hc1 (fun x h => (hy.cs x h).ext hE1) (by
        have := congrArg List.length hm1
        rw [List.length_map] at this; first | omega | (simp only [List.length_nil] at this; omega)) (fun q hq => hch q.c (by rw [← hm1]; exact List.mem_map_of_mem hq)) (by rw [hm1]; exact hy.l)
      refine cl_Y (h5) ?_
      intro _ _
      repeat' (first | (refine go_Y ?_; intros) | (refine gs_Y ?_ ?_ <;> (intro hgd; try (simp only [Bool.not_true, Bool.not_false] at hgd))) | (refine gc_Y ?_ ?_ <;> intro _) | fail)
      refine cl_Y (rows15_spec b bx r Q1 (Pt.new hp.ro hp.wr).ro (Pt.new hp.ro hp.wr).wr) ?_
      intro Q2 hE2
      repeat' (first | (refine go_Y ?_; intros) | (refine gs_Y ?_ ?_ <;> (intro hgd; try (simp only [Bool.not_true, Bool.not_false] at hgd))) | (refine gc_Y ?_ ?_ <;> intro _) | fail)
      refine cont_map (fun _ h => rt_in (P := Q) (x := (⟨r, r.turns, [], [], false⟩ : Tx)) (bo := bo) (vo := vo) (os := os) (vl := vl) (cs := c2) rfl rfl hy (Take.out takeD h)) ?_
      refine cont_map (fun _ h => rtP_ext (hE1.trans hE2) (b := ub') (bn := bx) (x := ⟨r, r.turns, [], [], false⟩) (Take.out1 (A := rtP Q ub' bx ⟨r, r.turns, [], [], false⟩) takeD h)) ?_
      refine cont_map (fun _ h => txP_ext hE2 (b := tb') (bn := b) (x := ⟨r, r.turns, [], [], false⟩) (Take.out1 (A := txP Q1 tb' b ⟨r, r.turns, [], [], false⟩) takeD h)) ?_
      refine cont_map (L' := [Q2, txP Q2 tb' b ⟨r, r.turns, [], [], false⟩, relP Q2 b r, rtP Q2 ub' bx ⟨r, r.turns, [], [], false⟩, rfP Q2 bx r, pts b2 (.cells [.slice ps (ts.map tbV).length cs].toArray 24)] ++ R) entD ?_
      refine cont_back (i + 1, ⟨(⟨r, r.turns, [], [], false⟩, r, tb', ub', Q2), Pt.new hp.ro hp.wr, (hE.trans hQ).trans (hE1.trans hE2)⟩) ⟨h0, ⟨rfl, rfl, rfl, rfl, rfl, rfl, rfl, rfl, trivial⟩, rfl⟩ (by show az.length - (i + 1) < az.length - i; omega)
    | false =>
      have c4' : (!decide (qe = (4 : Int))) = true := by rw [c4]; rfl
      have hact : ActS tb b ub bx x r ⟨qk, qt, ql⟩ qv qe P := by
        by_cases n1 : qe = 1
        · subst n1
          by_cases n0 : x.checkT r = 0
          · exact act1_yes tb b ub bx x r ⟨qk, qt, ql⟩ qv P hp hUP n0
          · exact act1_no tb b ub bx x r ⟨qk, qt, ql⟩ qv P hp n0
        by_cases n2 : qe = 2
        · subst n2; exact act2_spec tb b ub bx x r ⟨qk, qt, ql⟩ qv P
        by_cases n3 : qe = 3
        · subst n3; exact act3_spec tb b ub bx x r ⟨qk, qt, ql⟩ qv P hp hUP hvw hqv hwo hln
        exact act0_spec tb b ub bx x r ⟨qk, qt, ql⟩ qv P qe n1 n2 n3 hp hUP hvw hqv hwo hln
      have hpa := hp.act (e := qe) (o := ⟨qk, qt, ql⟩) (by dsimp only; omega) hwo
      unfold ActS at hact
      generalize actT x r qe ⟨qk, qt, ql⟩ = gg at hact hpa
      obtain ⟨x', r'⟩ := gg
      dsimp only at hact hpa
      repeat' (first | (refine go_Y ?_; intros) | (refine gs_Y ?_ ?_ <;> (intro hgd; try (simp only [Bool.not_true, Bool.not_false] at hgd))) | (refine gc_Y ?_ ?_ <;> intro _) | fail)
      refine cl_Y (hact) ?_
      intro Q hQ
      have hvQ := hQ.vw hvP
      repeat' (first | (refine go_Y ?_; intros) | (refine gs_Y ?_ ?_ <;> (intro hgd; try (simp only [Bool.not_true, Bool.not_false] at hgd))) | (refine gc_Y ?_ ?_ <;> intro _) | fail)
      refine ok_map (L' := [rtP Q ub bx x', txP Q tb b x', relP Q b r', rfP Q bx r', Q, pts b2 (.cells [.slice ps (ts.map tbV).length cs].toArray 24)] ++ R) entD ?_
      refine ok_ex .here ?_
      rintro ⟨⟨bo, vo, os, vl, c2⟩, hy⟩
      unfold rtL
      dsimp only
      have hch := (hpa).xo.chg
      have h60 := (hpa).xo.len
      have e6 : (!((x').over == (x').over)) = false := by simp
      refine ok_drawL (cv := []) [1, 9] ([pts ub (.cells [.pointer (some ⟨bx, 0, none⟩), .pointer (some ⟨bo, 0, none⟩), vo, vl, .bool (x').over].toArray 68)]) (takeD) (by kernel_rfl) rfl (by decide +kernel) ?_
      repeat' (first | (refine go_Y ?_; intros) | (refine gs_Y ?_ ?_ <;> (intro hgd; try (simp only [Bool.not_true, Bool.not_false] at hgd))) | (refine gc_Y ?_ ?_ <;> intro _) | fail)
      refine clN_Y (txOver_spec tb b x' Q) ?_
      intro _ _
      repeat' (first | (refine go_Y ?_; intros) | (refine gs_Y ?_ ?_ <;> (intro hgd; try (simp only [Bool.not_true, Bool.not_false] at hgd))) | (refine gc_Y ?_ ?_ <;> intro _) | fail)
      refine clN_Y (txChanges_spec tb b x' Q (hpa).xo) ?_
      rintro ⟨⟨v1, hv1⟩, c1, Q1⟩ ⟨hE1, hc1, hm1⟩
      dsimp only at hE1 hc1 hm1 ⊢
      refine opsL_mapL (fun _ h => relP_ext hE1 (b := b) (r := r') (Take.out1 (A := relP Q b r') takeD h)) ?_
      refine opsL_mapL (fun _ h => rfP_ext hE1 (b := bx) (r := r') (Take.out1 (A := rfP Q bx r') takeD h)) ?_
      repeat' (first | (refine go_Y ?_; intros) | (refine gs_Y ?_ ?_ <;> (intro hgd; try (simp only [Bool.not_true, Bool.not_false] at hgd))) | (refine gc_Y ?_ ?_ <;> intro _) | fail)
      have h5 := same15T_spec c1 c2 v1 vl (row 129 4 v1 (c1.map cmV)) (row 129 4 vl (c2.map cmV)) Q1 Vw.row Vw.row hc1 (fun x h => (hy.cs x h).ext hE1) (by
        have := congrArg List.length hm1
        rw [List.length_map] at this; first | omega | (simp only [List.length_nil] at this; omega)) (fun q hq => hch q.c (by rw [← hm1]; exact List.mem_map_of_mem hq)) (by rw [hm1]; exact hy.l)
      refine cl_Y (h5) ?_
      intro _ _
      repeat' (first | (refine go_Y ?_; intros) | (refine gs_Y ?_ ?_ <;> (intro hgd; try (simp only [Bool.not_true, Bool.not_false] at hgd))) | (refine gc_Y ?_ ?_ <;> intro _) | fail)
      refine cl_Y (rows15_spec b bx r' Q1 (hpa).ro (hpa).wr) ?_
      intro Q2 hE2
      repeat' (first | (refine go_Y ?_; intros) | (refine gs_Y ?_ ?_ <;> (intro hgd; try (simp only [Bool.not_true, Bool.not_false] at hgd))) | (refine gc_Y ?_ ?_ <;> intro _) | fail)
      refine cont_map (fun _ h => rt_in (P := Q) (x := x') (bo := bo) (vo := vo) (os := os) (vl := vl) (cs := c2) rfl rfl hy (Take.out takeD h)) ?_
      refine cont_map (fun _ h => rtP_ext (hE1.trans hE2) (b := ub) (bn := bx) (x := x') (Take.out1 (A := rtP Q ub bx x') takeD h)) ?_
      refine cont_map (fun _ h => txP_ext hE2 (b := tb) (bn := b) (x := x') (Take.out1 (A := txP Q1 tb b x') takeD h)) ?_
      refine cont_map (L' := [Q2, txP Q2 tb b x', relP Q2 b r', rtP Q2 ub bx x', rfP Q2 bx r', pts b2 (.cells [.slice ps (ts.map tbV).length cs].toArray 24)] ++ R) entD ?_
      refine cont_back (i + 1, ⟨(x', r', tb, ub, Q2), hpa, (hE.trans hQ).trans (hE1.trans hE2)⟩) ⟨h0, ⟨rfl, rfl, rfl, rfl, rfl, rfl, rfl, rfl, trivial⟩, rfl⟩ (by show az.length - (i + 1) < az.length - i; omega)
end Go.Proofs.YtbagfdolcabniaaGreatDoor
