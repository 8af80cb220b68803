/- Package rel: Do, Get, Len, Turns, Whole. -/
import Derived.Test.YtbagfdolcabniaaDoorRlF
-- @DEFS Y
set_option linter.unusedSimpArgs false
set_option linter.unusedVariables false
set_option maxRecDepth 100000
namespace Go.Proofs.YtbagfdolcabniaaDoor
open Go Go.Fx Go.Proofs Go.Pl

theorem row_len {r : Rl} (h : r.Ok) {p : Pc} {l : List Vl} (ha : aget p r.rows = some l) : l.length ≤ 8 := by
  have hr := (h.rows _ (aget_mem ha)).row
  obtain ⟨_, _, h3⟩ := rowS_key hr
  simp only [rowS, Bool.and_eq_true] at hr
  obtain ⟨_, _, _, hok, _⟩ := hasS_tab hr.1
  have := hok.len
  dsimp only at h3
  omega
theorem put_len {r : Rl} (h : r.Ok) {p q : Pc} {row l : List Vl} (hz : row.length ≤ 1000000) (ha : aget q (aput p row r.rows) = some l) : l.length ≤ 1000000 := by
  rw [aget_put] at ha
  split at ha
  · cases ha; exact hz
  · have := row_len h ha; omega
theorem doOp_ins {r : Rl} {t : Int} {l : List Vl} : r.doOp ⟨1, t, l⟩ = Rl.doG Rl.ins r ⟨1, t, l⟩ := by
  unfold Rl.doOp Rl.doG
  rw [if_neg (by simp)]
  cases placeS r.s ⟨1, t, l⟩ with
  | none => rfl
  | some p =>
    unfold Rl.ins
    dsimp only
    by_cases h1 : (aget p r.rows).isSome = true
    · simp [h1]
    · by_cases h2 : 200 ≤ r.rows.length
      · simp [h1, h2]
      · have h1' : (aget p r.rows).isSome = false := by simpa using h1
        simp [h1', h2, aget_put]
theorem doOp_upd {r : Rl} {t : Int} {l : List Vl} : r.doOp ⟨2, t, l⟩ = Rl.doG Rl.upd r ⟨2, t, l⟩ := by
  unfold Rl.doOp Rl.doG
  rw [if_neg (by simp)]
  cases placeS r.s ⟨2, t, l⟩ with
  | none => rfl
  | some p =>
    unfold Rl.upd
    dsimp only
    cases h1 : (aget p r.rows).isSome with
    | true => simp [aget_put]
    | false => simp
theorem doOp_rem {r : Rl} (hok : r.Ok) {t : Int} {l : List Vl} : r.doOp ⟨3, t, l⟩ = Rl.doG Rl.rem r ⟨3, t, l⟩ := by
  unfold Rl.doOp Rl.doG
  rw [if_neg (by simp)]
  cases placeS r.s ⟨3, t, l⟩ with
  | none => rfl
  | some p =>
    unfold Rl.rem
    dsimp only
    cases h1 : (aget p r.rows).isSome with
    | true => simp [aget_del _ _ hok.nd]
    | false => simp
set_option maxHeartbeats 1000000 in
theorem Do_kind (b : Nat) (r : Rl) (o : Opr) (w : Value) (P : HProp) (h1 : o.kind ≠ 1) (h2 : o.kind ≠ 2) (h3 : o.kind ≠ 3) (hwc : w.oneCell' = true) :
    FSpec Tryd.prog 13 [.pointer (some ⟨b, 0, none⟩), .agg #[.int .u8 o.kind, .int .i64 o.table, w]] [relP P b r, P] Unit (fun _ => True) (fun y => .tuple #[.slice none 0 0, .slice none 0 0, .int .i64 2]) (fun _ => [relP P b r, P]) := by
  obtain ⟨kind, table, l⟩ := o
  dsimp only at h1 h2 h3 ⊢
  have hops := ops_spec
  have hk : getK (KInt .u8) kind [(1, fv 96), (2, fv 97), (3, fv 98)] = none := by
    simp only [getK]
    rw [if_neg h1, if_neg h2, if_neg h3]
  refine spec_intro [] _ Tryd.func13 rfl Tryd.ntmps13 (by rfl) (fun w0 R => ?_)
  repeat' (first | (refine go_Y ?_; intros) | (refine gs_Y ?_ ?_ <;> (intro hgd; try (simp only [Bool.not_true, Bool.not_false] at hgd))) | (refine gc_Y ?_ ?_ <;> intro _) | fail)
  rename_i b3
  refine ok_drawS (cv := []) [] [2] ([pts b3 (.cells [.int .u8 kind, .int .i64 table, w].toArray 28)]) _ (by kernel_rfl) rfl (by decide +kernel) (fun _ h => h) (takeS) ?_
  refine ops_run (s_callT (vs := []) (pre := []) .nil hops Take.nil rfl (fun _ _ _ h => takePre takeD _ h) rfl rfl ?_)
  intro mo _
  repeat' (first | (refine ro_Y ?_; intros) | fail)
  refine ops_run (a_lookupL (K := KInt .u8) rfl rfl rfl (MpIn.here (fun _ h => h)) hk rfl rfl ?_)
  repeat' (first | (refine go_Y ?_; intros) | (refine gs_Y ?_ ?_ <;> (intro hgd; try (simp only [Bool.not_true, Bool.not_false] at hgd))) | (refine gc_Y ?_ ?_ <;> intro _) | fail)
  (refine rt_Y (y := ()) (hrs := Tryd.results13) (hv := ?_) (hφ := ?_))
  · rfl
  · trivial
/-- Do. -/
theorem relDo_spec (b : Nat) (r : Rl) (o : Opr) (w : Value) (P : HProp) (hok : r.Ok) (hU : UT P) (hw : Vw P 4 w (o.row.map valV)) (hwc : w.oneCell' = true) (hwf : ∀ v ∈ o.row, v.wf) (hlen : o.row.length ≤ 1000000) :
    FSpec Tryd.prog 13 [.pointer (some ⟨b, 0, none⟩), .agg #[.int .u8 o.kind, .int .i64 o.table, w]] [relP P b r, P] (V1s × V1s × HProp)
      (fun y => Ext P y.2.2 ∧ Vw y.2.2 4 y.1.1 ((r.doOp o).2.1.map valV)) (fun y => .tuple #[y.1.1, y.2.1.1, .int .i64 (r.doOp o).2.2.2])
      (fun y => [row 31 4 y.2.1.1 ((r.doOp o).2.2.1.map valV), relP y.2.2 b (r.doOp o).1, y.2.2]) := by
  by_cases h1 : o.kind = 1
  · obtain ⟨k, t, l⟩ := o
    dsimp only at h1 hw hwf hlen ⊢
    subst h1
    rw [doOp_ins]
    exact DoG_spec _ Rl.ins insert_spec b r ⟨1, t, l⟩ w P rfl hU hw hwc hwf hlen (fun p h => by
      unfold Rl.ins at h ⊢
      try dsimp only at h ⊢
      split
      · rfl
      · split
        · rfl
        · rename_i a c; rw [if_neg a, if_neg c] at h; exact absurd rfl h) (fun p l' h => by
      unfold Rl.ins at h
      try dsimp only at h
      split at h
      · have := row_len hok h; omega
      · split at h
        · have := row_len hok h; omega
        · exact put_len hok hlen h)
  by_cases h2 : o.kind = 2
  · obtain ⟨k, t, l⟩ := o
    dsimp only at h2 hw hwf hlen ⊢
    subst h2
    rw [doOp_upd]
    exact DoG_spec _ Rl.upd update_spec b r ⟨2, t, l⟩ w P rfl hU hw hwc hwf hlen (fun p h => by
      unfold Rl.upd at h ⊢
      try dsimp only at h ⊢
      split
      · rename_i a; rw [if_pos a] at h; exact absurd rfl h
      · rfl) (fun p l' h => by
      unfold Rl.upd at h
      try dsimp only at h
      split at h
      · exact put_len hok hlen h
      · have := row_len hok h; omega)
  by_cases h3 : o.kind = 3
  · obtain ⟨k, t, l⟩ := o
    dsimp only at h3 hw hwf hlen ⊢
    subst h3
    rw [doOp_rem hok]
    exact DoG_spec _ Rl.rem remove_spec b r ⟨3, t, l⟩ w P rfl hU hw hwc hwf hlen (fun p h => by
      unfold Rl.rem at h ⊢
      try dsimp only at h ⊢
      split
      · rename_i a; rw [if_pos a] at h; exact absurd rfl h
      · rfl) (fun p l' h => by
      unfold Rl.rem at h
      try dsimp only at h
      split at h
      · rw [aget_del _ _ hok.nd] at h
        split at h
        · cases h
        · have := row_len hok h; omega
      · have := row_len hok h; omega)
  · have hD : r.doOp o = (r, [], [], 2) := by
      unfold Rl.doOp
      rw [if_pos ⟨h1, h2, h3⟩]
    rw [hD]
    exact (Do_kind b r o w P h1 h2 h3 hwc).conseq (fun _ _ s => s) (fun _ _ => ⟨(⟨.slice none 0 0, rfl⟩, ⟨.slice none 0 0, rfl⟩, P), ⟨Ext.refl P, vw_nil4⟩, rfl, fun R h s => nilRow s⟩)
theorem relLen_spec (b : Nat) (r : Rl) (P : HProp) : FSpec Tryd.prog 15 [.pointer (some ⟨b, 0, none⟩)] [relP P b r] Unit (fun _ => True) (fun _ => .int .i64 (r.rows.length : Int)) (fun _ => [relP P b r]) := by
  refine fspec_ex ?_
  rintro ⟨⟨vs, ts, m, es⟩, hy⟩
  have hl : (es.length : Int) = (r.rows.length : Int) := by rw [hy.es.len]
  unfold relL
  dsimp only
  rw [← hl]
  refine spec_intro [] _ Tryd.func15 rfl Tryd.ntmps15 (by rfl) (fun w0 R => ?_)
  repeat' (first | (refine go_Y ?_; intros) | (refine gs_Y ?_ ?_ <;> (intro hgd; try (simp only [Bool.not_true, Bool.not_false] at hgd))) | (refine gc_Y ?_ ?_ <;> intro _) | fail)
  refine cont_map (fun _ h => rel_in (b := b) (r := r) hy (Take.out takeD h)) ?_
  (refine rt_Y (y := ()) (hrs := Tryd.results15) (hv := ?_) (hφ := ?_))
  · rfl
  · trivial
theorem relTurns_spec (b : Nat) (r : Rl) (P : HProp) : FSpec Tryd.prog 16 [.pointer (some ⟨b, 0, none⟩)] [relP P b r] Unit (fun _ => True) (fun _ => .int .u64 r.turns) (fun _ => [relP P b r]) := by
  refine fspec_ex ?_
  rintro ⟨⟨vs, ts, m, es⟩, hy⟩
  unfold relL
  dsimp only
  refine spec_intro [] _ Tryd.func16 rfl Tryd.ntmps16 (by rfl) (fun w0 R => ?_)
  repeat' (first | (refine go_Y ?_; intros) | (refine gs_Y ?_ ?_ <;> (intro hgd; try (simp only [Bool.not_true, Bool.not_false] at hgd))) | (refine gc_Y ?_ ?_ <;> intro _) | fail)
  refine cont_map (fun _ h => rel_in (b := b) (r := r) hy (Take.out takeD h)) ?_
  (refine rt_Y (y := ()) (hrs := Tryd.results16) (hv := ?_) (hφ := ?_))
  · rfl
  · trivial
set_option maxHeartbeats 1000000 in
theorem relGet_spec (b : Nat) (r : Rl) (t : Int) (v : Vl) (P : HProp) (hok : r.Ok) (hU : UT P) (hv : v.wf) :
    FSpec Tryd.prog 14 [.pointer (some ⟨b, 0, none⟩), .int .i64 t, .agg (valV v).toArray] [relP P b r, P] V1s (fun _ => True) (fun y => .tuple #[y.1, .int .i64 (r.getOp t v).2]) (fun y => [row 31 4 y.1 ((r.getOp t v).1.map valV), relP P b r, P]) := by
  refine fspec_ex ?_
  rintro ⟨⟨vs, ts, m, es⟩, hy⟩
  have hy' := hy
  obtain ⟨hvc, hsv, hss, hes⟩ := hy
  dsimp only at hvc hsv hss hes
  unfold relL
  dsimp only
  have hkey := sKey_spec t v vs ts P hsv hU hv
  rw [hss] at hkey
  have hget := hes.get (p := (t, v))
  have hlr := fun l (h : aget (t, v) r.rows = some l) => row_len hok h
  unfold Rl.getOp
  generalize keyS r.s t v = kb at hkey
  obtain ⟨k, i, rr, s⟩ := v
  dsimp only [valV] at hkey hget ⊢
  cases kb with
  | false =>
    rw [cond_false] at hkey
    simp only [Bool.false_eq_true, if_false]
    refine spec_intro [] _ Tryd.func14 rfl Tryd.ntmps14 (by rfl) (fun w0 R => ?_)
    repeat' (first | (refine go_Y ?_; intros) | (refine gs_Y ?_ ?_ <;> (intro hgd; try (simp only [Bool.not_true, Bool.not_false] at hgd))) | (refine gc_Y ?_ ?_ <;> intro _) | fail)
    refine cl_Y (hkey) ?_
    intro _ _
    repeat' (first | (refine go_Y ?_; intros) | (refine gs_Y ?_ ?_ <;> (intro hgd; try (simp only [Bool.not_true, Bool.not_false] at hgd))) | (refine gc_Y ?_ ?_ <;> intro _) | fail)
    refine cont_map (fun _ h => rel_in (b := b) (r := r) hy' (Take.out takeD h)) ?_
    refine cont_map (fun _ h => nilRow (e := 31) (n := 4) h) ?_
    (refine rt_Y (y := ⟨.slice none 0 0, rfl⟩) (hrs := Tryd.results14) (hv := ?_) (hφ := ?_))
    · rfl
    · trivial
  | true =>
    rw [cond_true] at hkey
    simp only [if_true]
    rcases hget with ⟨hg, ha⟩ | ⟨u, l, hg, ha, hu⟩
    · rw [ha]
      dsimp only
      refine spec_intro [] _ Tryd.func14 rfl Tryd.ntmps14 (by rfl) (fun w0 R => ?_)
      repeat' (first | (refine go_Y ?_; intros) | (refine gs_Y ?_ ?_ <;> (intro hgd; try (simp only [Bool.not_true, Bool.not_false] at hgd))) | (refine gc_Y ?_ ?_ <;> intro _) | fail)
      refine cl_Y (hkey) ?_
      intro _ _
      repeat' (first | (refine go_Y ?_; intros) | (refine gs_Y ?_ ?_ <;> (intro hgd; try (simp only [Bool.not_true, Bool.not_false] at hgd))) | (refine gc_Y ?_ ?_ <;> intro _) | fail)
      refine cont_map (fun _ h => rel_in (b := b) (r := r) hy' (Take.out takeD h)) ?_
      refine cont_map (fun _ h => nilRow (e := 31) (n := 4) h) ?_
      (refine rt_Y (y := ⟨.slice none 0 0, rfl⟩) (hrs := Tryd.results14) (hv := ?_) (hφ := ?_))
      · rfl
      · trivial
    · have hll := hlr l ha
      have hcl := cloneV_spec u P l hu (by omega)
      rw [ha]
      dsimp only
      refine spec_intro [] _ Tryd.func14 rfl Tryd.ntmps14 (by rfl) (fun w0 R => ?_)
      repeat' (first | (refine go_Y ?_; intros) | (refine gs_Y ?_ ?_ <;> (intro hgd; try (simp only [Bool.not_true, Bool.not_false] at hgd))) | (refine gc_Y ?_ ?_ <;> intro _) | fail)
      refine cl_Y (hkey) ?_
      intro _ _
      repeat' (first | (refine go_Y ?_; intros) | (refine gs_Y ?_ ?_ <;> (intro hgd; try (simp only [Bool.not_true, Bool.not_false] at hgd))) | (refine gc_Y ?_ ?_ <;> intro _) | fail)
      refine cl_Y (hcl) ?_
      rintro ⟨va, hva⟩ _
      repeat' (first | (refine go_Y ?_; intros) | (refine gs_Y ?_ ?_ <;> (intro hgd; try (simp only [Bool.not_true, Bool.not_false] at hgd))) | (refine gc_Y ?_ ?_ <;> intro _) | fail)
      refine cont_map (fun _ h => rel_in (b := b) (r := r) hy' (Take.out takeD h)) ?_
      (refine rt_Y (y := ⟨va, hva⟩) (hrs := Tryd.results14) (hv := ?_) (hφ := ?_))
      · rfl
      · trivial
end Go.Proofs.YtbagfdolcabniaaDoor
