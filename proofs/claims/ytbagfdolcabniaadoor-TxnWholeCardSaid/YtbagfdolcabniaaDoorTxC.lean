/- The walk of txn.Txn.Do. -/
import Derived.Test.YtbagfdolcabniaaDoorTxB
-- @DEFS Y
set_option linter.unusedSimpArgs false
set_option linter.unusedVariables false
set_option maxRecDepth 100000
set_option pp.deepTerms true
set_option pp.maxSteps 200000
namespace Go.Proofs.YtbagfdolcabniaaDoor
open Go Go.Fx Go.Proofs Go.Pl

theorem vspec_frame {P : Program} {fv : Value} {args : List Value} {pre : List HProp} {Y : Type} {φ : Y → Prop} {ret : Y → Value} {post : Y → List HProp} (s : VSpec P fv args pre Y φ ret post) (F : List HProp) : VSpec P fv args (pre ++ F) Y φ ret (fun y => post y ++ F) := by
  intro w0 w R hs
  rw [List.append_assoc] at hs
  refine (s w0 w (F ++ R) hs).mono ?_
  rintro e w' ⟨y, hy, he, hw⟩
  exact ⟨y, hy, he, by rw [List.append_assoc]; exact hw⟩
theorem did_len {r : Rl} (hok : r.Ok) (o : Opr) (hl : o.row.length ≤ 1000000) : (r.doOp o).2.1.length ≤ 1000000 ∧ (r.doOp o).2.2.1.length ≤ 1000000 := by
  rcases doOp_did r o with ⟨_, _, e1, e2⟩ | ⟨_, p, d⟩
  · rw [e1, e2]; exact ⟨by simp, by simp⟩
  · refine ⟨?_, ?_⟩
    · rw [d.was]
      cases hg : aget p r.rows with
      | none => simp
      | some l => have := row_len hok hg; show l.length ≤ _; omega
    · rcases d.kind with ⟨_, _, _, e⟩ | ⟨_, _, _, e⟩ | ⟨_, _, _, e⟩
      · rw [e]; exact hl
      · rw [e]; exact hl
      · rw [e]; simp
theorem Tx.Ok.doT {x : Tx} (h : x.Ok) {o : Opr} (hl : o.row.length ≤ 1000000) (hw : ∀ v ∈ o.row, v.wf) : (x.doT o).1.Ok := by
  unfold Tx.doT
  split
  · exact h
  split
  · exact h
  split
  · exact h
  · rename_i h1 h2 h3
    obtain ⟨l1, l2⟩ := did_len h.own o hl
    refine ⟨h.own.doOp o, ?_, ?_, ?_, ?_, h.t0, h.t1⟩
    · dsimp only; rw [List.length_append, List.length_singleton]; omega
    · dsimp only; rw [List.length_append, List.length_append, h.rlen]; rfl
    · intro q hq
      rcases List.mem_append.1 hq with hq | hq
      · exact h.rows q hq
      · rw [List.mem_singleton] at hq; subst hq; exact ⟨hl, hw⟩
    · intro q hq
      rcases List.mem_append.1 hq with hq | hq
      · exact h.chg q hq
      · rw [List.mem_singleton] at hq; subst hq; exact ⟨l1, l2⟩

set_option maxHeartbeats 4000000 in
theorem txDo1_spec (b bn bt bo : Nat) (x : Tx) (o : Opr) (w : Value) (P : HProp) (hx : x.Ok) (hov : x.over = false) (hU : UT P) (hw : Vw P 4 w (o.row.map valV)) (hwc : w.oneCell' = true) (hwf : ∀ v ∈ o.row, v.wf) (hlen : o.row.length ≤ 1000000) :
    FSpec Tryd.prog 63 [.pointer (some ⟨bt, 0, none⟩), .pointer (some ⟨bo, 0, none⟩)] [txP P b bn x, P, pts bt (.cells [.pointer (some ⟨b, 0, none⟩)].toArray 50), pts bo (.cells [.int .u8 o.kind, .int .i64 o.table, w].toArray 28)] HProp (fun P' => Ext P P') (fun _ => .int .i64 (x.doT o).2) (fun P' => [txP P' b bn (x.doT o).1, P']) := by
  refine fspec_ex ?_
  rintro ⟨⟨bw, vr, rs, vl, cs⟩, hy⟩
  have hin := fun L h (s : SatL (txL P b bn x ⟨⟨bw, vr, rs, vl, cs⟩, hy⟩ ++ L) h) => tx_in hy s
  unfold txL at hin ⊢
  dsimp only at hin ⊢
  obtain ⟨h1, h2, h3, h4, h5, h6⟩ := hy
  dsimp only at h1 h2 h3 h4 h5 h6
  obtain ⟨own, t0, redo, l, over⟩ := x
  dsimp only at hov h4 h6
  subst hov
  have lc : (cs.map cmV).length = l.length := by rw [← h6]; simp
  have lr : (rs.map rmF).length = l.length := by have := hx.rlen; dsimp only at this; rw [← this, ← h4]; simp
  have lcs : cs.length = l.length := by rw [← lc]; simp
  have lrs : rs.length = l.length := by rw [← lr]; simp
  have hlm := hx.len
  have hown := hx.own
  obtain ⟨okd, otb, orow⟩ := o
  dsimp only at *
  have lo : (orow.map valV).length = orow.length := by simp
  unfold Tx.doT
  dsimp only
  rw [if_neg (by simp)]
  cases t1 : decide ((60 : Int) ≤ ((cs.map cmV).length : Int)) with
  | true =>
    have : 60 ≤ l.length := by have := of_decide_eq_true t1; omega
    rw [if_pos this]
    refine spec_intro [] _ Tryd.func63 rfl Tryd.ntmps63 (by rfl) (fun w0 R => ?_)
    refine ok_learn (rowShape (e := 82) (n := 4) (v := vl) (xs := cs.map cmV) (by decide) takeD) ?_
    rintro (⟨rfl, hn⟩ | ⟨gl, cl, rfl, hcl⟩)
    · rw [hn] at t1; simp at t1
    repeat' (first | (refine go_Y ?_; intros) | (refine gs_Y ?_ ?_ <;> (intro hgd; try (simp only [Bool.not_true, Bool.not_false] at hgd))) | (refine gc_Y ?_ ?_ <;> intro _) | fail)
    refine cont_map (fun _ h => hin _ _ (Take.out takeD h)) ?_
    (refine rt_Y (y := P) (hrs := Tryd.results63) (hv := ?_) (hφ := ?_))
    · rfl
    · exact Ext.refl P
  | false =>
    have hl60 : l.length < 60 := by have := of_decide_eq_false t1; omega
    rw [if_neg (by omega)]
    have hdo := relDo_spec bw own ⟨okd, otb, orow⟩ w P hown hU hw hwc hwf hlen
    rcases doOp_did own ⟨okd, otb, orow⟩ with ⟨he, hr', hb', ha'⟩ | ⟨he, p, hd⟩
    · rw [if_pos he]
      rw [hr', hb', ha'] at hdo
      generalize (own.doOp ⟨okd, otb, orow⟩).2.2.2 = e at hdo he ⊢
      have f1 : (!decide (e = (0 : Int))) = true := by simp [he]
      refine spec_intro [] _ Tryd.func63 rfl Tryd.ntmps63 (by rfl) (fun w0 R => ?_)
      refine ok_learn (row_shape' (e := 82) (n := 4) (v := vl) (xs := cs.map cmV) (by decide) takeD) ?_
      rintro ⟨pl, cl, rfl, hcl⟩
      refine ok_learn (row_shape' (e := 124) (n := 1) (v := vr) (xs := rs.map rmF) (by decide) takeD) ?_
      rintro ⟨pq, cq, rfl, hcq⟩
      repeat' (first | (refine go_Y ?_; intros) | (refine gs_Y ?_ ?_ <;> (intro hgd; try (simp only [Bool.not_true, Bool.not_false] at hgd))) | (refine gc_Y ?_ ?_ <;> intro _) | fail)
      refine cl_Y (hdo) ?_
      rintro ⟨⟨b4, hb4⟩, ⟨a4, ha4⟩, P'⟩ ⟨hE', hbv⟩
      dsimp only at hE' hbv ⊢
      repeat' (first | (refine go_Y ?_; intros) | (refine gs_Y ?_ ?_ <;> (intro hgd; try (simp only [Bool.not_true, Bool.not_false] at hgd))) | (refine gc_Y ?_ ?_ <;> intro _) | fail)
      refine cont_map (fun _ h => relP_ext (b := bw) (r := own) (Ext.refl P') (Take.out1 takeD h)) ?_
      refine cont_map (fun _ h => tx_in (b := b) (bn := bn) (x := ⟨own, t0, redo, l, false⟩) (y := ⟨bw, .slice pq (rs.map rmF).length cq, rs, .slice pl (cs.map cmV).length cl, cs⟩) (TxOK.ext hE' ⟨h1, h2, h3, h4, h5, h6⟩) (Take.out takeD h)) ?_
      (refine rt_Y (y := P') (hrs := Tryd.results63) (hv := ?_) (hφ := ?_))
      · rfl
      · exact hE'
    · rw [if_neg (by rw [he]; simp)]
      have hokn := hown.doOp ⟨okd, otb, orow⟩
      obtain ⟨hbl, _⟩ := did_len hown ⟨okd, otb, orow⟩ hlen
      have hcl1 := fun P' (hv : Vw P' 4 w (orow.map valV)) => cloneV_spec w P' orow hv hlen
      rw [he] at hdo
      clear hd he
      generalize (own.doOp ⟨okd, otb, orow⟩).1 = own' at hdo hokn ⊢
      generalize (own.doOp ⟨okd, otb, orow⟩).2.1 = bef at hdo hbl ⊢
      generalize (own.doOp ⟨okd, otb, orow⟩).2.2.1 = aft at hdo ⊢
      have f1 : (!decide ((0 : Int) = (0 : Int))) = false := by decide
      refine spec_intro [] _ Tryd.func63 rfl Tryd.ntmps63 (by rfl) (fun w0 R => ?_)
      refine ok_learn (row_shape' (e := 82) (n := 4) (v := vl) (xs := cs.map cmV) (by decide) takeD) ?_
      rintro ⟨pl, cl, rfl, hcl⟩
      refine ok_learn (row_shape' (e := 124) (n := 1) (v := vr) (xs := rs.map rmF) (by decide) takeD) ?_
      rintro ⟨pq, cq, rfl, hcq⟩
      repeat' (first | (refine go_Y ?_; intros) | (refine gs_Y ?_ ?_ <;> (intro hgd; try (simp only [Bool.not_true, Bool.not_false] at hgd))) | (refine gc_Y ?_ ?_ <;> intro _) | fail)
      refine cl_Y (hdo) ?_
      rintro ⟨⟨b4, hb4⟩, ⟨a4, ha4⟩, P'⟩ ⟨hE', hbv⟩
      dsimp only at hE' hbv ⊢
      refine ops_learn (VwIn.slice (VwIn.there (VwIn.there (VwIn.here hbv)))) ?_
      rintro ⟨pb4, cb4, rfl⟩
      refine ops_learn (row_shape' (e := 31) (n := 4) (v := a4) (xs := aft.map valV) (by decide) takeD) ?_
      rintro ⟨pa4, ca4, rfl, _⟩
      repeat' (first | (refine go_Y ?_; intros) | (refine gs_Y ?_ ?_ <;> (intro hgd; try (simp only [Bool.not_true, Bool.not_false] at hgd))) | (refine gc_Y ?_ ?_ <;> intro _) | fail)
      refine cl_Y (hcl1 P' (hE'.vw hw)) ?_
      rintro ⟨vn, hvn⟩ _
      repeat' (first | (refine go_Y ?_; intros) | (refine gs_Y ?_ ?_ <;> (intro hgd; try (simp only [Bool.not_true, Bool.not_false] at hgd))) | (refine gc_Y ?_ ?_ <;> intro _) | fail)
      refine ok_map (L' := [row 31 4 vn (orow.map valV), P', row 31 4 (.slice pa4 (aft.map valV).length ca4) (aft.map valV), relP P' bw own', pts b (.cells [.pointer (some ⟨bn, 0, none⟩), .pointer (some ⟨bw, 0, none⟩), .int .u64 t0, .slice pq (rs.map rmF).length cq, .slice pl (cs.map cmV).length cl, .bool false].toArray 122), row 124 1 (.slice pq (rs.map rmF).length cq) (rs.map rmF), row 82 4 (.slice pl (cs.map cmV).length cl) (cs.map cmV), pts bt (.cells [.pointer (some ⟨b, 0, none⟩)].toArray 50), pts bo (.cells [.int .u8 okd, .int .i64 otb, vn].toArray 28)] ++ R) entD ?_
      refine ok_drawL (cv := []) [10, 13, 14] ([P', pts b (.cells [.pointer (some ⟨bn, 0, none⟩), .pointer (some ⟨bw, 0, none⟩), .int .u64 t0, .slice pq (rs.map rmF).length cq, .slice pl (cs.map cmV).length cl, .bool false].toArray 122), pts bt (.cells [.pointer (some ⟨b, 0, none⟩)].toArray 50), pts bo (.cells [.int .u8 okd, .int .i64 otb, vn].toArray 28)]) (takeD) (by kernel_rfl) rfl (by decide +kernel) ?_
      repeat' (first | (refine go_Y ?_; intros) | (refine gs_Y ?_ ?_ <;> (intro hgd; try (simp only [Bool.not_true, Bool.not_false] at hgd))) | (refine gc_Y ?_ ?_ <;> intro _) | fail)
      refine clN_Y (cloneV_spec (.slice pb4 (bef.map valV).length cb4) P' bef hbv hbl) ?_
      rintro ⟨vb, hvb⟩ _
      refine ops_learn (row_shape' (e := 31) (n := 4) (v := vb) (xs := bef.map valV) (by decide) takeD) ?_
      rintro ⟨pvb, cvb, rfl, _⟩
      repeat' (first | (refine go_Y ?_; intros) | (refine gs_Y ?_ ?_ <;> (intro hgd; try (simp only [Bool.not_true, Bool.not_false] at hgd))) | (refine gc_Y ?_ ?_ <;> intro _) | fail)
      rename_i v1 hv1c v2 hv2c
      refine ok_map (L' := [row 82 4 v2 (cs.map cmV ++ [cmV ⟨okd, otb, ⟨.slice pvb (bef.map valV).length cvb, hvb⟩, bef, ⟨.slice pa4 (aft.map valV).length ca4, ha4⟩, aft⟩]), row 31 4 (.slice pvb (bef.map valV).length cvb) (bef.map valV), row 31 4 vn (orow.map valV), P', row 31 4 (.slice pa4 (aft.map valV).length ca4) (aft.map valV), relP P' bw own', pts b (.cells [.pointer (some ⟨bn, 0, none⟩), .pointer (some ⟨bw, 0, none⟩), .int .u64 t0, .slice pq (rs.map rmF).length cq, v2, .bool false].toArray 122), row 124 1 (.slice pq (rs.map rmF).length cq) (rs.map rmF), pts bt (.cells [.pointer (some ⟨b, 0, none⟩)].toArray 50), pts bo (.cells [.int .u8 okd, .int .i64 otb, vn].toArray 28)] ++ R) entD ?_
      refine ok_drawL (cv := []) [6, 7] ([pts b (.cells [.pointer (some ⟨bn, 0, none⟩), .pointer (some ⟨bw, 0, none⟩), .int .u64 t0, .slice pq (rs.map rmF).length cq, v2, .bool false].toArray 122), pts bt (.cells [.pointer (some ⟨b, 0, none⟩)].toArray 50)]) (takeD) (by kernel_rfl) rfl (by decide +kernel) ?_
      repeat' (first | (refine go_Y ?_; intros) | (refine gs_Y ?_ ?_ <;> (intro hgd; try (simp only [Bool.not_true, Bool.not_false] at hgd))) | (refine gc_Y ?_ ?_ <;> intro _) | fail)
      rename_i v3 hv3c v4 hv4c
      have e1 := Ext.pool (row 31 4 (.slice pa4 (aft.map valV).length ca4) (aft.map valV)) P'
      have w1 : Vw (pool (row 31 4 (.slice pa4 (aft.map valV).length ca4) (aft.map valV)) P') 4 (.slice pa4 (aft.map valV).length ca4) (aft.map valV) := pool_row
      refine cont_map (fun _ h => pool_in (A := row 31 4 (.slice pa4 (aft.map valV).length ca4) (aft.map valV)) (P := P') (Take.out2 takeD h)) ?_
      generalize pool (row 31 4 (.slice pa4 (aft.map valV).length ca4) (aft.map valV)) P' = Q1 at e1 w1
      have e2 := Ext.pool (row 31 4 (.slice pvb (bef.map valV).length cvb) (bef.map valV)) Q1
      have w2 : Vw (pool (row 31 4 (.slice pvb (bef.map valV).length cvb) (bef.map valV)) Q1) 4 (.slice pvb (bef.map valV).length cvb) (bef.map valV) := pool_row
      refine cont_map (fun _ h => pool_in (A := row 31 4 (.slice pvb (bef.map valV).length cvb) (bef.map valV)) (P := Q1) (Take.out2 takeD h)) ?_
      generalize pool (row 31 4 (.slice pvb (bef.map valV).length cvb) (bef.map valV)) Q1 = Q2 at e2 w2
      have e3 := Ext.pool (row 31 4 vn (orow.map valV)) Q2
      have w3 : Vw (pool (row 31 4 vn (orow.map valV)) Q2) 4 vn (orow.map valV) := pool_row
      refine cont_map (fun _ h => pool_in (A := row 31 4 vn (orow.map valV)) (P := Q2) (Take.out2 takeD h)) ?_
      generalize pool (row 31 4 vn (orow.map valV)) Q2 = Q3 at e3 w3
      have e4 := Ext.pool (pts bo (.cells [.int .u8 okd, .int .i64 otb, vn].toArray 28)) Q3
      have w4 : Rd (pool (pts bo (.cells [.int .u8 okd, .int .i64 otb, vn].toArray 28)) Q3) bo (.cells [.int .u8 okd, .int .i64 otb, vn].toArray 28) := Ext.rd (Ext.poolL _ _) (Rd.pts _ _)
      refine cont_map (fun _ h => pool_in (A := pts bo (.cells [.int .u8 okd, .int .i64 otb, vn].toArray 28)) (P := Q3) (Take.out2 takeD h)) ?_
      generalize pool (pts bo (.cells [.int .u8 okd, .int .i64 otb, vn].toArray 28)) Q3 = Q4 at e4 w4
      have e24 := (e2.trans e3).trans e4
      have e04 := e1.trans e24
      refine cont_map (fun _ h => relP_ext (b := bw) (r := own') e04 (Take.out1 takeD h)) ?_
      have m1 : (rs ++ [(⟨bo, okd, otb, ⟨vn, hvn⟩, orow⟩ : Rm)]).map rmF = rs.map rmF ++ [[.func (.func 64) #[] #[.pointer (some ⟨bo, 0, none⟩)]]] := by rw [List.map_append]; rfl
      have m2 : (cs ++ [(⟨okd, otb, ⟨.slice pvb (bef.map valV).length cvb, hvb⟩, bef, ⟨.slice pa4 (aft.map valV).length ca4, ha4⟩, aft⟩ : Cm)]).map cmV = cs.map cmV ++ [cmV ⟨okd, otb, ⟨.slice pvb (bef.map valV).length cvb, hvb⟩, bef, ⟨.slice pa4 (aft.map valV).length ca4, ha4⟩, aft⟩] := by rw [List.map_append]; rfl
      have hE4 := hE'.trans e04
      refine cont_map (fun _ h => tx_in (b := b) (bn := bn) (x := ⟨own', t0, redo ++ [⟨okd, otb, orow⟩], l ++ [⟨okd, otb, bef, aft⟩], false⟩)
        (y := ⟨bw, v4, rs ++ [⟨bo, okd, otb, ⟨vn, hvn⟩, orow⟩], v2, cs ++ [⟨okd, otb, ⟨.slice pvb (bef.map valV).length cvb, hvb⟩, bef, ⟨.slice pa4 (aft.map valV).length ca4, ha4⟩, aft⟩]⟩)
        ⟨hv4c, hv2c, fun q hq => by
          rcases List.mem_append.1 hq with hq | hq
          · exact (h3 q hq).ext hE4
          · rw [List.mem_singleton] at hq; subst hq; exact ⟨w4, e4.vw w3⟩, by rw [List.map_append, h4]; rfl, fun q hq => by
          rcases List.mem_append.1 hq with hq | hq
          · exact (h5 q hq).ext hE4
          · rw [List.mem_singleton] at hq; subst hq; exact ⟨(e3.trans e4).vw w2, e24.vw w1⟩, by rw [List.map_append, h6]; rfl⟩ (by unfold txL; dsimp only; rw [m1, m2]; exact Take.out takeD h)) ?_
      (refine rt_Y (y := Q4) (hrs := Tryd.results63) (hv := ?_) (hφ := ?_))
      · rfl
      · exact hE4
end Go.Proofs.YtbagfdolcabniaaDoor
