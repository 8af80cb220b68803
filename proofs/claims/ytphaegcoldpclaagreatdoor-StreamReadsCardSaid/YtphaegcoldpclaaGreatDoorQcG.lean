import Derived.Test.YtphaegcoldpclaaGreatDoorG19
set_option linter.unusedSimpArgs false
set_option linter.unusedVariables false
set_option maxRecDepth 100000
namespace Go.Proofs.YtphaegcoldpclaaGreatDoor
open Go Go.Fx Go.Proofs Go.Pl

set_option maxHeartbeats 16000000 in
theorem do14_upd (b : Nat) (r : Rl) (t : Int) (l : List Vl) (w : Value) (P : HProp) (vs vr : Value) (ts : List Tb) (q : List Rr) (hok : r.Ok) (hwf : Rl.Wf r) (hU : UT P) (hwc : w.oneCell' = true) (hw : Vw P 4 w (l.map valV)) (hwfo : ∀ v ∈ l, v.wf) (hy : RfOK P r ⟨vs, ts, vr, q⟩) (hr : rowS r.s t l = true) :
    Do14 b r ⟨2, t, l⟩ w P [pts b (.cells [vs, vr, .int .u64 r.turns].toArray 100), row 102 2 vr (q.map rrV), P] := by
  unfold Do14
  rw [doOp_upd' hr]
  have hmay := may14_spec b vs vr r.turns ts P ⟨2, t, l⟩ w hy.vc hy.sv hU hw hwfo
  rw [hy.s, show mayB r.s ⟨2, t, l⟩ = true from by unfold mayB; rw [if_neg (by simp)]; exact hr] at hmay
  obtain ⟨hks, hk, hlen⟩ := rowS_key hr
  have hh : hasS r.s t = true := by simp only [rowS, Bool.and_eq_true] at hr; exact hr.1
  have hkw := hwfo _ (List.mem_of_getElem? hk)
  have hat := at14_spec b r vs vr ts q P t (Pl.keyOf r.s t l) hok hwf hy hkw
  have hy' := hy
  obtain ⟨hvc, hvrc, hsv, hss, hrq, hrv⟩ := hy
  dsimp only at hvc hvrc hsv hss hrq hrv hmay ⊢
  rw [hrq.is] at hat
  have hvw := hsv.vw
  have hqm : (q.map rrV).length = q.length := by simp
  have hql := hrq.len
  have hrl := hok.len
  have hle := atN_le r.s q (t, Pl.keyOf r.s t l)
  have hupd := fun (x : Rr) (hx : (x.pl r.s).1 = (t, Pl.keyOf r.s t l)) was (hl : aget (t, Pl.keyOf r.s t l) r.rows = some was) (r' : Rl) (h1 : r'.s = r.s) (h2 : r'.rows = aput (t, Pl.keyOf r.s t l) x.l r.rows) => by
    have := RefQ.update (r' := r') hrq (x := x) (by rw [hx]; exact hl) h1 (by rw [hx]; exact h2)
    rw [hx] at this; exact this
  have hfound := fun was (hl : aget (t, Pl.keyOf r.s t l) r.rows = some was) => hrq.found hl
  have hpl : ∀ lv, (Rr.pl r.s ⟨t, lv, l⟩).1 = (t, Pl.keyOf r.s t l) := fun _ => rfl
  rw [← hss] at hh
  obtain ⟨tm, tb, rfl, htt, hxt, htl, hta, htok, htmem⟩ := hasS_tb hh
  have k0 := htok.key0
  have kL := htok.keyL
  rw [hss] at hta
  rw [hta] at hk hlen
  obtain ⟨tn, cols, ⟨tcv, htcv⟩, key, ref, par⟩ := tb
  dsimp only [tbV, Tb.c] at hxt k0 kL hk hlen
  obtain ⟨km, rfl⟩ : ∃ km : Nat, key = km := ⟨key.toNat, by omega⟩
  rw [Int.toNat_natCast] at hk
  have hkl := (List.getElem?_eq_some_iff.1 hk).1
  generalize Pl.keyOf r.s (tm : Int) l = k at *
  generalize atN r.s q ((tm : Int), k) = N at *
  have hl8 := htok.len
  dsimp only [Tb.c] at hl8
  have hlm : (l.map valV).length = l.length := by simp
  have hnk : km < (l.map valV).length := by omega
  have hxk : (l.map valV)[km]? = some (valV k) := by rw [List.getElem?_map, hk]; rfl
  have hn0 : (0 : Nat) < (l.map valV).length := by omega
  have hx0 : (l.map valV)[0]? = some (valV (l[0]'(by omega))) := by rw [List.getElem?_map, List.getElem?_eq_getElem (by omega)]; rfl
  have hcp := fun (u : Value) (hu : Vw P 4 u (l.map valV)) => copy04_spec l u P hu (by omega)
  generalize l[0]'(by omega) = z at hx0
  obtain ⟨zk, zi, zr, zs⟩ := z
  cases hg : aget ((tm : Int), k) r.rows with
  | none =>
    rw [hg, Option.isSome_none] at hat
    obtain ⟨kk, ki, kr, ks⟩ := k
    dsimp only [valV] at hx0 hxk hat ⊢
    refine spec_intro [] _ Tryz.func35 rfl Tryz.ntmps35 (by rfl) (fun w0 R => ?_)
    refine ok_learn (VwIn.slice (VwIn.there (VwIn.there (VwIn.here hw)))) ?_
    rintro ⟨pw, cw, rfl⟩
    refine ok_learn (VwIn.base (VwIn.there (VwIn.there (VwIn.here hw))) (by intro e; rw [e] at hn0; simp at hn0)) ?_
    rintro ⟨bw, ow, rfl⟩
    refine ok_learn (VwIn.slice (VwIn.there (VwIn.there (VwIn.here hvw)))) ?_
    rintro ⟨pv, cv, rfl⟩
    refine ok_learn (VwIn.base (VwIn.there (VwIn.there (VwIn.here hvw))) (by intro e; rw [e] at htl; simp at htl)) ?_
    rintro ⟨bv, ov, rfl⟩
    repeat' (first | (refine go_Y ?_; intros) | (refine gs_Y ?_ ?_ <;> (intro hgd; try (simp only [bn] at hgd))) | (refine gc_Y ?_ ?_ <;> intro _) | fail)
    refine cl_Y (hmay) ?_
    intro _ _
    repeat' (first | (refine go_Y ?_; intros) | (refine gs_Y ?_ ?_ <;> (intro hgd; try (simp only [bn] at hgd))) | (refine gc_Y ?_ ?_ <;> intro _) | fail)
    refine cl_Y (hat) ?_
    intro _ _
    repeat' (first | (refine go_Y ?_; intros) | (refine gs_Y ?_ ?_ <;> (intro hgd; try (simp only [bn] at hgd))) | (refine gc_Y ?_ ?_ <;> intro _) | fail)
    refine cont_map (fun _ h => nilRow (e := 28) (n := 4) h) ?_
    refine cont_map (fun _ h => rf_in (b := b) (r := r) (P := P) hy' (Take.out takeD h)) ?_
    (refine rt_Y (y := (⟨.slice none 0 0, rfl⟩, ⟨.slice none 0 0, rfl⟩, P)) (hrs := Tryz.results35) (hv := ?_) (hφ := ?_))
    · rfl
    · exact ⟨Ext.refl P, vw_nil4⟩
  | some was =>
    rw [hg, Option.isSome_some] at hat
    have hupd := fun lv (r' : Rl) h1 h2 => hupd ⟨(tm : Int), lv, l⟩ (hpl lv) was hg r' h1 h2
    obtain ⟨x, hqx, hxp⟩ := hfound was hg
    have hN : N < q.length := (List.getElem?_eq_some_iff.1 hqx).1
    have hxx : (q.map rrV)[N]? = some (rrV x) := by rw [List.getElem?_map, hqx]; rfl
    have hxv := hrv x (List.mem_of_getElem? hqx)
    have hxl : x.l = was := congrArg Prod.snd hxp
    clear hxp hfound
    obtain ⟨xt, ⟨xv, hxv1⟩, xl⟩ := x
    dsimp only at hxl
    subst hxl
    have hn1 : N < (q.map rrV).length := by omega
    obtain ⟨kk, ki, kr, ks⟩ := k
    dsimp only [valV, rrV] at hx0 hxk hat hxx hxv ⊢
    refine spec_intro [] _ Tryz.func35 rfl Tryz.ntmps35 (by rfl) (fun w0 R => ?_)
    refine ok_learn (VwIn.slice (VwIn.there (VwIn.there (VwIn.here hw)))) ?_
    rintro ⟨pw, cw, rfl⟩
    refine ok_learn (VwIn.base (VwIn.there (VwIn.there (VwIn.here hw))) (by intro e; rw [e] at hn0; simp at hn0)) ?_
    rintro ⟨bw, ow, rfl⟩
    refine ok_learn (VwIn.slice (VwIn.there (VwIn.there (VwIn.here hvw)))) ?_
    rintro ⟨pv, cv, rfl⟩
    refine ok_learn (VwIn.base (VwIn.there (VwIn.there (VwIn.here hvw))) (by intro e; rw [e] at htl; simp at htl)) ?_
    rintro ⟨bv, ov, rfl⟩
    refine ok_learn (rowShapeS (e := 102) (n := 2) (v := vr) (xs := q.map rrV) (by decide) takeD) ?_
    rintro ⟨pr, cr, rfl, hcr, hsp⟩
    refine ok_learn (rowShape (e := 102) (n := 2) (v := .slice pr (q.map rrV).length cr) (xs := q.map rrV) (by decide) takeD) ?_
    rintro (⟨_, hn⟩ | ⟨br, cr', hbr, _⟩)
    · rw [hn] at hn1; simp at hn1
    simp only [Value.slice.injEq, true_and] at hbr
    obtain ⟨rfl, rfl⟩ := hbr
    have hcp := hcp _ hw
    repeat' (first | (refine go_Y ?_; intros) | (refine gs_Y ?_ ?_ <;> (intro hgd; try (simp only [bn] at hgd))) | (refine gc_Y ?_ ?_ <;> intro _) | fail)
    refine cl_Y (hmay) ?_
    intro _ _
    repeat' (first | (refine go_Y ?_; intros) | (refine gs_Y ?_ ?_ <;> (intro hgd; try (simp only [bn] at hgd))) | (refine gc_Y ?_ ?_ <;> intro _) | fail)
    refine cl_Y (hat) ?_
    intro _ _
    repeat' (first | (refine go_Y ?_; intros) | (refine gs_Y ?_ ?_ <;> (intro hgd; try (simp only [bn] at hgd))) | (refine gc_Y ?_ ?_ <;> intro _) | fail)
    rename_i bo y1 a1 bk y2 a2
    refine ok_map (L' := [P, pts b (.cells [.slice (some ⟨bv, ov, none⟩) (ts.map tbV).length cv, .slice (some ⟨br, 0, none⟩) (q.map rrV).length cr, .int .u64 (IntKind.u64.wrap (r.turns + 1))].toArray 100), row 102 2 (.slice (some ⟨br, 0, none⟩) (q.map rrV).length cr) (q.map rrV), pts bk (.cells [.int .u8 kk, .int .i64 ki, .int .u64 kr, .string ks].toArray 28), pts bo (.cells [.int .u8 2, .int .i64 (tm : Int), .slice (some ⟨bw, ow, none⟩) (l.map valV).length cw].toArray 64)] ++ R) entD ?_
    (apply ok_draw [9]; (focus (kernel_rfl)); (focus ((conv => lhs; whnf); first | done | rfl)); (focus (decide +kernel)); (focus (exact (fun _ h => h))))
    repeat' (first | (refine go_Y ?_; intros) | (refine gs_Y ?_ ?_ <;> (intro hgd; try (simp only [bn] at hgd))) | (refine gc_Y ?_ ?_ <;> intro _) | fail)
    refine clN_Y (hcp) ?_
    rintro ⟨va, hva⟩ _
    refine ops_learn (rowShapeS (e := 28) (n := 4) (v := va) (xs := l.map valV) (by decide) takeD) ?_
    rintro ⟨pa, ca, rfl, hca, hsa⟩
    repeat' (first | (refine go_Y ?_; intros) | (refine gs_Y ?_ ?_ <;> (intro hgd; try (simp only [bn] at hgd))) | (refine gc_Y ?_ ?_ <;> intro _) | fail)
    refine cl_Y (hcp) ?_
    rintro ⟨vb, hvb⟩ _
    repeat' (first | (refine go_Y ?_; intros) | (refine gs_Y ?_ ?_ <;> (intro hgd; try (simp only [bn] at hgd))) | (refine gc_Y ?_ ?_ <;> intro _) | fail)
    refine cont_map (fun _ h => pool_in (A := row 28 4 (.slice pa (l.map valV).length ca) (l.map valV)) (P := P) (Take.out2 takeD h)) ?_
    refine cont_map (L' := [pts b (.cells [.slice (some ⟨bv, ov, none⟩) (ts.map tbV).length cv, .slice (some ⟨br, 0, none⟩) (q.map rrV).length cr, .int .u64 (IntKind.u64.wrap (r.turns + 1))].toArray 100), row 102 2 (.slice (some ⟨br, 0, none⟩) (q.map rrV).length cr) ((q.set N ⟨(tm : Int), ⟨.slice pa (l.map valV).length ca, rfl⟩, l⟩).map rrV), row 28 4 vb (l.map valV), pool (row 28 4 (.slice pa (l.map valV).length ca) (l.map valV)) P] ++ R) (by rw [List.map_set]; exact entD) ?_
    refine cont_map (fun _ h => rf_in (b := b) (r := { r with rows := aput ((tm : Int), ⟨kk, ki, kr, ks⟩) l r.rows, turns := IntKind.u64.wrap (r.turns + 1) }) (P := pool (row 28 4 (.slice pa (l.map valV).length ca) (l.map valV)) P) (vs := .slice (some ⟨bv, ov, none⟩) (ts.map tbV).length cv) (ts := ts) (vr := .slice (some ⟨br, 0, none⟩) (q.map rrV).length cr) (q := q.set N ⟨(tm : Int), ⟨.slice pa (l.map valV).length ca, rfl⟩, l⟩)
      ⟨rfl, rfl, hsv.ext (Ext.pool _ _), hss, hupd _ _ rfl rfl, fun x hx => ?_⟩ (Take.out takeD h)) ?_
    · rcases List.mem_or_eq_of_mem_set hx with hx | rfl
      · exact (Ext.pool _ _).vw (hrv x hx)
      · exact pool_row
    (refine rt_Y (y := (⟨xv, hxv1⟩, ⟨vb, hvb⟩, pool (row 28 4 (.slice pa (l.map valV).length ca) (l.map valV)) P)) (hrs := Tryz.results35) (hv := ?_) (hφ := ?_))
    · rfl
    · exact ⟨Ext.pool _ _, (Ext.pool _ _).vw hxv⟩
theorem do14_spec (b : Nat) (r : Rl) (o : Opr) (w : Value) (P : HProp) (hok : r.Ok) (hwf : Rl.Wf r) (hU : UT P) (hw : Vw P 4 w (o.row.map valV)) (hwc : w.oneCell' = true) (hwfo : ∀ v ∈ o.row, v.wf) :
    FSpec Tryz.prog 35 [.pointer (some ⟨b, 0, none⟩), .agg #[.int .u8 o.kind, .int .i64 o.table, w]] [rfP P b r, P] (V1s × V1s × HProp)
      (fun y => Ext P y.2.2 ∧ Vw y.2.2 4 y.1.1 ((r.doOp o).2.1.map valV)) (fun y => .tuple #[y.1.1, y.2.1.1, .int .i64 (r.doOp o).2.2.2])
      (fun y => [row 28 4 y.2.1.1 ((r.doOp o).2.2.1.map valV), rfP y.2.2 b (r.doOp o).1, y.2.2]) := by
  refine fspec_ex ?_
  rintro ⟨⟨vs, ts, vr, q⟩, hy⟩
  show Do14 b r o w P _
  cases hm : mayB r.s o with
  | false => exact do14_bad b r o w P vs vr ts q hU hwc hw hwfo hy hm
  | true =>
    obtain ⟨k, t, l⟩ := o
    by_cases h3 : k = 3
    · subst h3
      obtain ⟨v, rfl, hk⟩ := mayB_del hm
      exact do14_rem b r t v w P vs vr ts q hok hwf hU hwc hw (hwfo v (List.mem_singleton.2 rfl)) hy hk
    · obtain ⟨h12, hr⟩ := mayB_lay h3 hm
      rcases h12 with rfl | rfl
      · exact do14_ins b r t l w P vs vr ts q hok hwf hU hwc hw hwfo hy hr
      · exact do14_upd b r t l w P vs vr ts q hok hwf hU hwc hw hwfo hy hr
end Go.Proofs.YtphaegcoldpclaaGreatDoor
