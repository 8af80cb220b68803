/- Texts merged: PhLB PhL. -/
import Derived.Test.YtphaegcoldpclaaGreatDoorG21
set_option linter.unusedSimpArgs false
set_option linter.unusedVariables false
set_option maxRecDepth 100000
namespace Go.Proofs.YtphaegcoldpclaaGreatDoor
open Go Go.Fx Go.Proofs Go.Pl
set_option maxHeartbeats 32000000 in
theorem AggLocal_specB (vs vo : Value) (ts : List Tb) (ops : List Om) (o : Om) (A : HProp) (hU : UT A) (hvc : vs.oneCell' = true) (h : SVr A vs ts) (ho : OsR A vo ops) (h1 : OmR A o)
    (hwops : ∀ q ∈ ops, ∀ v ∈ q.row, v.wf) (hwo : ∀ v ∈ o.row, v.wf) (hk3 : o.kind ≠ 3) :
    FSpec Tryz.prog 5 [.agg #[vs], vo, .agg (opV o).toArray] [A] HProp (fun P' => Ext A P') (fun _ => .bool true) (fun P' => [P']) := by
  have hh1 := heavy14_spec vs vo ts ops A h ho
  have hal0 := fun (P : HProp) (e : Ext A P) => alive24_spec P (hU.ext e)
  obtain ⟨okd, otb, ⟨orv, horv⟩, orow⟩ := o
  dsimp only [opV] at *
  obtain ⟨hcv, hcl, hct⟩ := h1
  dsimp only at hcv hcl hct
  have lr : (orow.map valV).length = orow.length := by simp
  refine spec_intro [] _ Tryz.func5 rfl Tryz.ntmps5 (by rfl) (fun w0 R => ?_)
  refine ok_learn (VwIn.slice (VwIn.here hcv)) ?_
  rintro ⟨po, co, rfl⟩
  refine ok_learn (VwIn.slice (VwIn.here h.vw)) ?_
  rintro ⟨ps, cv, rfl⟩
  repeat' (first | (refine go_Y ?_; intros) | (refine gs_Y ?_ ?_ <;> (intro hgd; try (simp only [Bool.not_true, Bool.not_false] at hgd))) | (refine gc_Y ?_ ?_ <;> intro _) | fail)
  rename_i b3 b5
  refine cl_Y (hh1) ?_
  intro y1 hlg
  cases y1 with
  | true =>
    repeat' (first | (refine go_Y ?_; intros) | (refine gs_Y ?_ ?_ <;> (intro hgd; try (simp only [Bool.not_true, Bool.not_false] at hgd))) | (refine gc_Y ?_ ?_ <;> intro _) | fail)
    refine cl_Y (hal0 A (Ext.refl A)) ?_
    intro _ _
    repeat' (first | (refine go_Y ?_; intros) | (refine gs_Y ?_ ?_ <;> (intro hgd; try (simp only [Bool.not_true, Bool.not_false] at hgd))) | (refine gc_Y ?_ ?_ <;> intro _) | fail)
    (refine rt_Y (y := A) (hrs := Tryz.results5) (hv := ?_) (hφ := ?_))
    · rfl
    · exact Ext.refl A
  | false =>
  have hsm := hlg rfl
  repeat' (first | (refine go_Y ?_; intros) | (refine gs_Y ?_ ?_ <;> (intro hgd; try (simp only [Bool.not_true, Bool.not_false] at hgd))) | (refine gc_Y ?_ ?_ <;> intro _) | fail)
  rename_i w1 hw1
  refine op1_learn (rowShape (e := 64) (n := 3) (v := w1) (xs := [[.int .u8 okd, .int .i64 otb, .slice po (orow.map valV).length co]]) (by decide) takeD) ?_
  rintro (⟨rfl, hn⟩ | ⟨g1, c1, rfl, _⟩)
  · cases hn
  refine op1_map (fun _ h => pool_in (A := row 64 3 (.slice (some ⟨g1, 0, none⟩) 1 c1) [[.int .u8 okd, .int .i64 otb, .slice po (orow.map valV).length co]]) (P := A) (Take.out2 takeD h)) ?_
  have hx1 := Ext.pool (row 64 3 (.slice (some ⟨g1, 0, none⟩) 1 c1) [[.int .u8 okd, .int .i64 otb, .slice po (orow.map valV).length co]]) A
  have hwv1 : Vw (pool (row 64 3 (.slice (some ⟨g1, 0, none⟩) 1 c1) [[.int .u8 okd, .int .i64 otb, .slice po (orow.map valV).length co]]) A) 3 (.slice (some ⟨g1, 0, none⟩) 1 c1) ([⟨okd, otb, ⟨_, horv⟩, orow⟩].map opV) := pool_row
  generalize pool (row 64 3 (.slice (some ⟨g1, 0, none⟩) 1 c1) [[.int .u8 okd, .int .i64 otb, .slice po (orow.map valV).length co]]) A = P0 at hx1 hwv1
  have hU0 := hU.ext hx1
  have hcv0 := hx1.vw hcv
  have hs0 : SVr P0 (.slice ps (ts.map tbV).length cv) ts := h.ext hx1
  have ho0 : OsR P0 vo ops := ⟨hx1.vw ho.vw, fun o hq => ⟨hx1.vw (ho.op o hq).vw, (ho.op o hq).len, (ho.op o hq).txt⟩, ho.len⟩
  have hh2 := heavy14_spec (.slice ps (ts.map tbV).length cv) (.slice (some ⟨g1, 0, none⟩) 1 c1) ts [⟨okd, otb, ⟨_, horv⟩, orow⟩] P0 hs0 ⟨hwv1, fun q hq => by rw [List.mem_singleton] at hq; subst hq; exact ⟨hcv0, hcl, hct⟩, by show (1 : Nat) ≤ _; decide⟩
  have hal := fun (P : HProp) (e : Ext P0 P) => alive24_spec P (hU0.ext e)
  have hEA0 : Ext A P0 := hx1
  clear hwv1 hx1 hcv ho h hU hw1 hh1 hlg hct hcl hal0
  refine cl_Y (hh2) ?_
  intro y2 hlh
  cases y2 with
  | true =>
    repeat' (first | (refine go_Y ?_; intros) | (refine gs_Y ?_ ?_ <;> (intro hgd; try (simp only [Bool.not_true, Bool.not_false] at hgd))) | (refine gc_Y ?_ ?_ <;> intro _) | fail)
    refine cl_Y (hal P0 (Ext.refl P0)) ?_
    intro _ _
    repeat' (first | (refine go_Y ?_; intros) | (refine gs_Y ?_ ?_ <;> (intro hgd; try (simp only [Bool.not_true, Bool.not_false] at hgd))) | (refine gc_Y ?_ ?_ <;> intro _) | fail)
    (refine rt_Y (y := P0) (hrs := Tryz.results5) (hv := ?_) (hφ := ?_))
    · rfl
    · exact hEA0
  | false =>
  have hsn := (hlh rfl).2.2 _ (List.mem_singleton.2 rfl)
  dsimp only at hsn
  have hsv := hs0.sv hsm.1
  cases hck : checkS (ts.map Tb.c) with
  | false =>
    repeat' (first | (refine go_Y ?_; intros) | (refine gs_Y ?_ ?_ <;> (intro hgd; try (simp only [Bool.not_true, Bool.not_false] at hgd))) | (refine gc_Y ?_ ?_ <;> intro _) | fail)
    refine cl_Y (both24_bad (.slice ps (ts.map tbV).length cv) vo ts ops P0 hsv ho0 hck) ?_
    intro _ _
    repeat' (first | (refine go_Y ?_; intros) | (refine gs_Y ?_ ?_ <;> (intro hgd; try (simp only [Bool.not_true, Bool.not_false] at hgd))) | (refine gc_Y ?_ ?_ <;> intro _) | fail)
    refine cl_Y (hal P0 (Ext.refl P0)) ?_
    intro _ _
    repeat' (first | (refine go_Y ?_; intros) | (refine gs_Y ?_ ?_ <;> (intro hgd; try (simp only [Bool.not_true, Bool.not_false] at hgd))) | (refine gc_Y ?_ ?_ <;> intro _) | fail)
    (refine rt_Y (y := P0) (hrs := Tryz.results5) (hv := ?_) (hφ := ?_))
    · rfl
    · exact hEA0
  | true =>
  repeat' (first | (refine go_Y ?_; intros) | (refine gs_Y ?_ ?_ <;> (intro hgd; try (simp only [Bool.not_true, Bool.not_false] at hgd))) | (refine gc_Y ?_ ?_ <;> intro _) | fail)
  refine cl_Y (both24_ok (.slice ps (ts.map tbV).length cv) vo ts ops P0 hU0 hsv ho0 hwops hsm hck) ?_
  rintro ⟨b, bx, r, P⟩ ⟨hok, hwf, hrs, hE⟩
  dsimp only at hok hwf hrs hE ⊢
  refine rfP_Q (P := P) (b := bx) (r := r) takeD fun hQ => ?_
  obtain ⟨R0, hR⟩ := hQ.rows hok
  have hslen : r.s.length ≤ 12 := by obtain ⟨_, _, _, _, h12⟩ := checkS_ok hok.sch; exact h12
  have htsl : ts.length = r.s.length := by rw [hrs, List.length_map]
  have ltm : (ts.map tbV).length = ts.length := by simp
  have hUP := hU0.ext hE
  have hwh := relWhole_spec b r P hok
  cases t1 : decide (otb < 0) with
  | true =>
    repeat' (first | (refine go_Y ?_; intros) | (refine gs_Y ?_ ?_ <;> (intro hgd; try (simp only [Bool.not_true, Bool.not_false] at hgd))) | (refine gc_Y ?_ ?_ <;> intro _) | fail)
    refine cl_Y (hal P hE) ?_
    intro _ _
    repeat' (first | (refine go_Y ?_; intros) | (refine gs_Y ?_ ?_ <;> (intro hgd; try (simp only [Bool.not_true, Bool.not_false] at hgd))) | (refine gc_Y ?_ ?_ <;> intro _) | fail)
    (refine rt_Y (y := P) (hrs := Tryz.results5) (hv := ?_) (hφ := ?_))
    · rfl
    · exact hEA0.trans hE
  | false =>
  cases t2 : decide (((ts.map tbV).length : Int) ≤ otb) with
  | true =>
    repeat' (first | (refine go_Y ?_; intros) | (refine gs_Y ?_ ?_ <;> (intro hgd; try (simp only [Bool.not_true, Bool.not_false] at hgd))) | (refine gc_Y ?_ ?_ <;> intro _) | fail)
    refine cl_Y (hal P hE) ?_
    intro _ _
    repeat' (first | (refine go_Y ?_; intros) | (refine gs_Y ?_ ?_ <;> (intro hgd; try (simp only [Bool.not_true, Bool.not_false] at hgd))) | (refine gc_Y ?_ ?_ <;> intro _) | fail)
    (refine rt_Y (y := P) (hrs := Tryz.results5) (hv := ?_) (hφ := ?_))
    · rfl
    · exact hEA0.trans hE
  | false =>
  have hob := of_decide_eq_false t1
  have hot := of_decide_eq_false t2
  cases hw0 : r.whole with
  | false =>
    rw [hw0, cond_false] at hwh
    have f1 : (!decide ((140 : Int) = (0 : Int))) = true := by decide
    repeat' (first | (refine go_Y ?_; intros) | (refine gs_Y ?_ ?_ <;> (intro hgd; try (simp only [Bool.not_true, Bool.not_false] at hgd))) | (refine gc_Y ?_ ?_ <;> intro _) | fail)
    refine cl_Y (hwh) ?_
    intro _ _
    repeat' (first | (refine go_Y ?_; intros) | (refine gs_Y ?_ ?_ <;> (intro hgd; try (simp only [Bool.not_true, Bool.not_false] at hgd))) | (refine gc_Y ?_ ?_ <;> intro _) | fail)
    refine cl_Y (hal P hE) ?_
    intro _ _
    repeat' (first | (refine go_Y ?_; intros) | (refine gs_Y ?_ ?_ <;> (intro hgd; try (simp only [Bool.not_true, Bool.not_false] at hgd))) | (refine gc_Y ?_ ?_ <;> intro _) | fail)
    (refine rt_Y (y := P) (hrs := Tryz.results5) (hv := ?_) (hφ := ?_))
    · rfl
    · exact hEA0.trans hE
  | true =>
  rw [hw0, cond_true] at hwh
  have f0 : (!decide ((0 : Int) = (0 : Int))) = false := by decide
  have hdo := relDo_spec b r ⟨okd, otb, orow⟩ (.slice po (orow.map valV).length co) P hok hUP (hE.vw hcv0) horv hwo (by show orow.length ≤ _; omega)
  have hok' := hok.doOp ⟨okd, otb, orow⟩
  have hwf' := doOp_wf' hwf (o := ⟨okd, otb, orow⟩) hwo
  have hQ' := hQ.doOp hok hwf (o := ⟨okd, otb, orow⟩) hwo
  have hdid := doOp_did r ⟨okd, otb, orow⟩
  have hsr' : (r.doOp ⟨okd, otb, orow⟩).1.s = r.s := doOp_s' r _
  have hdl := did_len hok ⟨okd, otb, orow⟩ (by show orow.length ≤ _; omega)
  generalize r.doOp ⟨okd, otb, orow⟩ = gg at hdo hok' hwf' hQ' hdid hsr' hdl
  obtain ⟨r', bef, aft, code⟩ := gg
  dsimp only at hdo hok' hwf' hQ' hdid hsr' hdl
  obtain ⟨hdl1, hdl2⟩ := hdl
  repeat' (first | (refine go_Y ?_; intros) | (refine gs_Y ?_ ?_ <;> (intro hgd; try (simp only [Bool.not_true, Bool.not_false] at hgd))) | (refine gc_Y ?_ ?_ <;> intro _) | fail)
  refine cl_Y (hwh) ?_
  intro _ _
  repeat' (first | (refine go_Y ?_; intros) | (refine gs_Y ?_ ?_ <;> (intro hgd; try (simp only [Bool.not_true, Bool.not_false] at hgd))) | (refine gc_Y ?_ ?_ <;> intro _) | fail)
  refine cl_Y (relCopy_spec b r P) ?_
  intro bc _
  repeat' (first | (refine go_Y ?_; intros) | (refine gs_Y ?_ ?_ <;> (intro hgd; try (simp only [Bool.not_true, Bool.not_false] at hgd))) | (refine gc_Y ?_ ?_ <;> intro _) | fail)
  refine cl_Y (hdo) ?_
  rintro ⟨⟨va, hva⟩, ⟨vb, hvb⟩, Q1⟩ ⟨hQ1, hvwa⟩
  dsimp only at hQ1 hvwa ⊢
  refine opsL_mapL (fun _ h => relP_ext hQ1 (b := bc) (r := r) (Take.out1 (A := relP P bc r) takeD h)) ?_
  have hE1 := hE.trans hQ1
  cases hc0 : decide (code = 0) with
  | false =>
    have f1 : (!decide (code = (0 : Int))) = true := by rw [hc0]; rfl
    repeat' (first | (refine go_Y ?_; intros) | (refine gs_Y ?_ ?_ <;> (intro hgd; try (simp only [Bool.not_true, Bool.not_false] at hgd))) | (refine gc_Y ?_ ?_ <;> intro _) | fail)
    refine cl_Y (hal Q1 hE1) ?_
    intro _ _
    repeat' (first | (refine go_Y ?_; intros) | (refine gs_Y ?_ ?_ <;> (intro hgd; try (simp only [Bool.not_true, Bool.not_false] at hgd))) | (refine gc_Y ?_ ?_ <;> intro _) | fail)
    (refine rt_Y (y := Q1) (hrs := Tryz.results5) (hv := ?_) (hφ := ?_))
    · rfl
    · exact hEA0.trans hE1
  | true =>
  obtain rfl := of_decide_eq_true hc0
  have hwh' := relWhole_spec b r' Q1 hok'
  cases hw1 : r'.whole with
  | false =>
    rw [hw1, cond_false] at hwh'
    have f1 : (!decide ((140 : Int) = (0 : Int))) = true := by decide
    repeat' (first | (refine go_Y ?_; intros) | (refine gs_Y ?_ ?_ <;> (intro hgd; try (simp only [Bool.not_true, Bool.not_false] at hgd))) | (refine gc_Y ?_ ?_ <;> intro _) | fail)
    refine cl_Y (hwh') ?_
    intro _ _
    repeat' (first | (refine go_Y ?_; intros) | (refine gs_Y ?_ ?_ <;> (intro hgd; try (simp only [Bool.not_true, Bool.not_false] at hgd))) | (refine gc_Y ?_ ?_ <;> intro _) | fail)
    refine cl_Y (hal Q1 hE1) ?_
    intro _ _
    repeat' (first | (refine go_Y ?_; intros) | (refine gs_Y ?_ ?_ <;> (intro hgd; try (simp only [Bool.not_true, Bool.not_false] at hgd))) | (refine gc_Y ?_ ?_ <;> intro _) | fail)
    (refine rt_Y (y := Q1) (hrs := Tryz.results5) (hv := ?_) (hφ := ?_))
    · rfl
    · exact hEA0.trans hE1
  | true =>
  rw [hw1, cond_true] at hwh'
  obtain ⟨p, hd⟩ : ∃ p, Did r ⟨okd, otb, orow⟩ p r' bef aft := by
    rcases hdid with ⟨h, _⟩ | ⟨_, p, h⟩
    · exact absurd rfl h
    · exact ⟨p, h⟩
  obtain ⟨R', hR'⟩ := hQ'.rows hok'
  have hnear := Did.near hok hd
  obtain ⟨hp1, hph, hone, hk0, hpk⟩ := hd.one hok
  dsimp only at hp1 hph hone hk0
  have hoar : okd ≠ 3 → 0 < aft.length := fun hk3 => by
    obtain ⟨_, hrl, _⟩ := placeS_tab hd.pl
    rcases hd.kind with ⟨_, _, _, e⟩ | ⟨_, _, _, e⟩ | ⟨e, _⟩
    · have h9 := hone; rw [if_neg hk3, e] at h9; rw [e]; exact Nat.lt_of_le_of_lt (Nat.zero_le _) (List.getElem?_eq_some_iff.1 h9).1
    · have h9 := hone; rw [if_neg hk3, e] at h9; rw [e]; exact Nat.lt_of_le_of_lt (Nat.zero_le _) (List.getElem?_eq_some_iff.1 h9).1
    · exact absurd e hk3
  have haf3 : okd = 3 → aft = [] := fun hk3 => by
    rcases hd.kind with ⟨e, _⟩ | ⟨e, _⟩ | ⟨_, _, _, e⟩
    · dsimp only at e; omega
    · dsimp only at e; omega
    · exact e
  have hpw : p.2.wf := by
    by_cases hk3 : okd = 3
    · rw [if_pos hk3] at hone
      have h9 := hd.was
      cases hg : aget p r.rows with
      | none => rw [hg] at h9; rw [h9] at hone; simp at hone
      | some l => rw [hg] at h9; rw [h9] at hone; exact hwf _ (aget_mem hg) _ (List.mem_of_getElem? hone)
    · rw [if_neg hk3] at hone
      have h9 : aft = orow := by
        rcases hd.kind with ⟨_, _, _, e⟩ | ⟨_, _, _, e⟩ | ⟨e, _⟩
        · exact e
        · exact e
        · exact absurd e hk3
      rw [h9] at hone
      exact hwo _ (List.mem_of_getElem? hone)
  have hsvQ1 := hsv.ext hE1
  obtain ⟨um, tbu, hum, hut, hux, hul, huta, hutok, _⟩ := hasS_tb (ts := ts) (k := otb) (by rw [← hrs]; exact hph)
  rw [← hrs] at huta
  rw [huta] at hone hk0
  have hum' : otb = (um : Int) := hum
  clear hum
  subst hum'
  obtain ⟨utn, ucols, ⟨utcv, hutcv⟩, utkey, uref, upar⟩ := tbu
  dsimp only [tbV, Tb.c] at hux hone hk0
  obtain ⟨km, rfl⟩ : ∃ km : Nat, utkey = km := ⟨utkey.toNat, by omega⟩
  rw [Int.toNat_natCast] at hone
  obtain ⟨pt, pk⟩ := p
  dsimp only at hp1 hone hpw
  subst hp1
  have hvwQ := hsvQ1.vw
  refine opsL_mapL (L' := [row 28 4 vb (aft.map valV), relP Q1 b r', Q1, relP Q1 bc r, pts b5 (.cells [.int .u8 okd, .int .i64 (um : Int), .slice po (orow.map valV).length co].toArray 64), pts b3 (.cells [.slice ps (ts.map tbV).length cv].toArray 24)] ++ R) entD ?_
  refine ops_learn (rowShapeS (e := 28) (n := 4) (v := vb) (xs := aft.map valV) (by decide) takeD) ?_
  rintro ⟨pb, cb, rfl, hcb, hsb⟩
  refine ops_poolR (ty := 28) (n := 4) (v := .slice pb (aft.map valV).length cb) (xs := aft.map valV) (P := Q1) takeD ?_
  intro Q2 hQ2 hvwb
  refine opsL_mapL (fun _ h => relP_ext hQ2 (b := bc) (r := r) (Take.out1 (A := relP Q1 bc r) takeD h)) ?_
  refine opsL_mapL (fun _ h => relP_ext hQ2 (b := b) (r := r') (Take.out1 (A := relP Q1 b r') takeD h)) ?_
  have hwh' := relWhole_spec b r' Q2 hok'
  rw [hw1, cond_true] at hwh'
  have hE2 := hE1.trans hQ2
  have hU2 := hU0.ext hE2
  have hvwa2 := hQ2.vw hvwa
  have hvw2 := hQ2.vw hvwQ
  have lba : (aft.map valV).length = aft.length := by simp
  have lbb : (bef.map valV).length = bef.length := by simp
  refine ops_learn (VwIn.slice (n := 5) (v := .slice ps (ts.map tbV).length cv) (xs := ts.map tbV) (VwIn.there (VwIn.there (VwIn.here hvw2)))) ?_
  rintro ⟨ps, cv, e9⟩
  simp only [Value.slice.injEq, true_and] at e9
  obtain ⟨rfl, rfl⟩ := e9
  have hrA := fun Q (e : Ext Q2 Q) => aRoot_any hR hok hwf bc (um : Int) pk Q (hU2.ext e) hpw
  have hrB := fun Q (e : Ext Q2 Q) => aRoot_any hR' hok' hwf' b (um : Int) pk Q (hU2.ext e) hpw
  have hansA := fun p0 => ansAt_root (p0 := p0) hR (p := ((um : Int), pk))
  have hansB := fun p0 => ansAt_root (p0 := p0) hR' (p := ((um : Int), pk))
  rw [hsr'] at hansB
  obtain ⟨⟨a, ak, had⟩, hzA⟩ : ∃ z, z = ansAt r ((um : Int), pk) := ⟨_, rfl⟩
  obtain ⟨⟨c, ck, has⟩, hzB⟩ : ∃ z, z = ansAt r' ((um : Int), pk) := ⟨_, rfl⟩
  rw [← hzA] at hrA hansA
  rw [← hzB] at hrB hansB
  clear hzA hzB
  generalize (r.getOp (um : Int) pk).2 = eA at hrA
  generalize (r'.getOp (um : Int) pk).2 = eB at hrB
  dsimp only at hrA hrB hansA hansB
  -- the row that tells the place, wherever it stands
  have hfin : ∀ (vq : Value) (l1 : List Vl), (vq = va ∧ l1 = bef ∧ okd = 3) ∨ (vq = .slice pb (aft.map valV).length cb ∧ l1 = aft ∧ okd ≠ 3) → Vw Q2 4 vq (l1.map valV) ∧ l1[km]? = some pk := by
    intro vq l1 hq
    rcases hq with ⟨rfl, rfl, e⟩ | ⟨rfl, rfl, e⟩
    · rw [if_pos e] at hone; exact ⟨hvwa2, hone⟩
    · rw [if_neg e] at hone; exact ⟨hvwb, hone⟩
  · have haf := hoar hk3
    obtain ⟨hq1, hq2⟩ := hfin _ aft (.inr ⟨rfl, rfl, hk3⟩)
    have g1 : decide ((0 : Int) < ((aft.map valV).length : Int)) = true := by simp only [decide_eq_true_eq]; omega
    have hkl := (List.getElem?_eq_some_iff.1 hq2).1
    have hxk : (aft.map valV)[km]? = some (valV pk) := by rw [List.getElem?_map, hq2]; rfl
    have hnk : km < (aft.map valV).length := by omega
    have g2 : decide (((aft.map valV).length : Int) ≤ (km : Int)) = false := by simp only [decide_eq_false_iff_not]; omega
    refine ops_learn (VwIn.base (n := 4) (xs := aft.map valV) (VwIn.there (VwIn.there (VwIn.here hq1))) (by intro e; rw [e] at hnk; simp at hnk)) ?_
    rintro ⟨bq, oq, rfl⟩
    refine ops_learn (VwIn.base (n := 5) (xs := ts.map tbV) (VwIn.there (VwIn.there (VwIn.here hvw2))) (by intro e; rw [e] at hul; simp at hul)) ?_
    rintro ⟨bv, ov, rfl⟩
    have hpkk : ∃ z, z = pk := ⟨_, rfl⟩
    obtain ⟨pk0, hpk0⟩ := hpkk
    obtain ⟨pkk, pki, pkr, pks⟩ := pk
    obtain ⟨ak, ai, ar, as0⟩ := ak
    obtain ⟨ck, ci, cr, cs0⟩ := ck
    dsimp only [valV] at hxk hrA hrB
    repeat' (first | (refine go_Y ?_; intros) | (refine gs_Y ?_ ?_ <;> (intro hgd; try (simp only [Bool.not_true, Bool.not_false] at hgd))) | (refine gc_Y ?_ ?_ <;> intro _) | fail)
    refine cl_Y (hwh') ?_
    intro _ _
    repeat' (first | (refine go_Y ?_; intros) | (refine gs_Y ?_ ?_ <;> (intro hgd; try (simp only [Bool.not_true, Bool.not_false] at hgd))) | (refine gc_Y ?_ ?_ <;> intro _) | fail)
    refine ok_map (L' := [relP Q2 b r', relP Q2 bc r, Q2, pts b5 (.cells [.int .u8 okd, .int .i64 (um : Int), .slice po (orow.map valV).length co].toArray 64), pts b3 (.cells [.slice (some ⟨bv, ov, none⟩) (ts.map tbV).length cv].toArray 24)] ++ R) entD ?_
    refine ok_meetT (γ := { g : Nat × HProp // Ext Q2 g.2 }) (fun g ρ L => Knows ρ [(3, .pointer (some ⟨b3, 0, none⟩)), (5, .pointer (some ⟨b5, 0, none⟩)), (7, .pointer (some ⟨b, 0, none⟩)), (10, .pointer (some ⟨bc, 0, none⟩)), (14, .int .i64 (km : Int)), (15, .slice (some ⟨bq, oq, none⟩) (aft.map valV).length cb), (16, .int .i64 a), (17, .pointer (some ⟨g.1.1, 0, none⟩)), (18, .bool had)] ∧
        L = [relP g.1.2 b r', relP g.1.2 bc r, g.1.2, pts b5 (.cells [.int .u8 okd, .int .i64 (um : Int), .slice po (orow.map valV).length co].toArray 64), pts b3 (.cells [.slice (some ⟨bv, ov, none⟩) (ts.map tbV).length cv].toArray 24), pts g.1.1 (.cells [.int .u8 ak, .int .i64 ai, .int .u64 ar, .string as0].toArray 28)] ++ R) ?_ ?_
    · refine ok_draw_forkQ (cv := []) 7 13 [7, 13] [Q2, pts b5 (.cells [.int .u8 okd, .int .i64 (um : Int), .slice po (orow.map valV).length co].toArray 64)] (by decide) (by kernel_rfl) rfl (by decide +kernel) (by decide +kernel) (takePre takeD) ?_
      repeat' (first | (refine go_Y ?_; intros) | (refine gs_Y ?_ ?_ <;> (intro hgd; try (simp only [Bool.not_true, Bool.not_false] at hgd))) | (refine gc_Y ?_ ?_ <;> intro _) | fail)
      have hrA1 := hrA Q2 (Ext.refl Q2)
      refine cont_forkQ (cv := []) rfl (by decide) rfl rfl rfl rfl rfl rfl (takePre takeD) (by decide +kernel) (by decide +kernel) ?_ ?_
      · repeat' (first | (refine go_Y ?_; intros) | (refine gs_Y ?_ ?_ <;> (intro hgd; try (simp only [Bool.not_true, Bool.not_false] at hgd))) | (refine gc_Y ?_ ?_ <;> intro _) | fail)
        refine ops_run (s_call_nb (by (repeat (first | exact EvA.nil | (apply EvA.cons; (focus ((conv => lhs; whnf); first | done | rfl)))))) hrA1 takeD rfl (fun y hy h s => ext_in hy (takePre (pre := [y, pts b5 (.cells [.int .u8 okd, .int .i64 (um : Int), .slice po (orow.map valV).length co].toArray 64)]) takeD h s)) ?_)
        intro Q3 hQ3
        repeat' (first | (refine go_Y ?_; intros) | (refine gs_Y ?_ ?_ <;> (intro hgd; try (simp only [Bool.not_true, Bool.not_false] at hgd))) | (refine gc_Y ?_ ?_ <;> intro _) | fail)
        refine ops_run (s_alloc_nb rfl rfl (fun h s => ext_in hQ3 (takePre (pre := [Q3, pts b5 (.cells [.int .u8 okd, .int .i64 (um : Int), .slice po (orow.map valV).length co].toArray 64)]) takeD h s)) ?_)
        intro b17
        repeat' (first | (refine go_Y ?_; intros) | (refine gs_Y ?_ ?_ <;> (intro hgd; try (simp only [Bool.not_true, Bool.not_false] at hgd))) | (refine gc_Y ?_ ?_ <;> intro _) | fail)
        refine cont_map (fun _ h => relP_ext hQ3 (b := b) (r := r') (Take.out1 (A := relP Q2 b r') takeD h)) ?_
        refine cont_map (L' := [relP Q3 b r', relP Q3 bc r, Q3, pts b5 (.cells [.int .u8 okd, .int .i64 (um : Int), .slice po (orow.map valV).length co].toArray 64), pts b3 (.cells [.slice (some ⟨bv, ov, none⟩) (ts.map tbV).length cv].toArray 24), pts b17 (.cells [.int .u8 ak, .int .i64 ai, .int .u64 ar, .string as0].toArray 28)] ++ R) entD ?_
        exact cont_meet ⟨(b17, Q3), hQ3⟩ ⟨⟨rfl, rfl, rfl, rfl, rfl, rfl, rfl, rfl, rfl, trivial⟩, rfl⟩
      · intro b17
        repeat' (first | (refine go_Y ?_; intros) | (refine gs_Y ?_ ?_ <;> (intro hgd; try (simp only [Bool.not_true, Bool.not_false] at hgd))) | (refine gc_Y ?_ ?_ <;> intro _) | fail)
        refine ops_run (s_call_nb (by (repeat (first | exact EvA.nil | (apply EvA.cons; (focus ((conv => lhs; whnf); first | done | rfl)))))) hrA1 takeD rfl (fun y hy h s => ext_in hy (takePre (pre := [y, pts b5 (.cells [.int .u8 okd, .int .i64 (um : Int), .slice po (orow.map valV).length co].toArray 64)]) takeD h s)) ?_)
        intro Q3 hQ3
        repeat' (first | (refine go_Y ?_; intros) | (refine gs_Y ?_ ?_ <;> (intro hgd; try (simp only [Bool.not_true, Bool.not_false] at hgd))) | (refine gc_Y ?_ ?_ <;> intro _) | fail)
        refine cont_late rfl ?_
        repeat' (first | (refine go_Y ?_; intros) | (refine gs_Y ?_ ?_ <;> (intro hgd; try (simp only [Bool.not_true, Bool.not_false] at hgd))) | (refine gc_Y ?_ ?_ <;> intro _) | fail)
        refine cont_map (fun _ h => relP_ext hQ3 (b := b) (r := r') (Take.out1 (A := relP Q2 b r') takeD h)) ?_
        refine cont_map (L' := [relP Q3 b r', relP Q3 bc r, Q3, pts b5 (.cells [.int .u8 okd, .int .i64 (um : Int), .slice po (orow.map valV).length co].toArray 64), pts b3 (.cells [.slice (some ⟨bv, ov, none⟩) (ts.map tbV).length cv].toArray 24), pts b17 (.cells [.int .u8 ak, .int .i64 ai, .int .u64 ar, .string as0].toArray 28)] ++ R) entD ?_
        exact cont_meet ⟨(b17, Q3), hQ3⟩ ⟨⟨rfl, rfl, rfl, rfl, rfl, rfl, rfl, rfl, rfl, trivial⟩, rfl⟩
    rintro ⟨⟨b17, Q3⟩, hQ3⟩ ρ L ⟨hk, rfl⟩
    dsimp only at hQ3 hk ⊢
    refine cont_regs hk ?_
    have hq3 := hQ3.vw hq1
    repeat' (first | (refine go_Y ?_; intros) | (refine gs_Y ?_ ?_ <;> (intro hgd; try (simp only [Bool.not_true, Bool.not_false] at hgd))) | (refine gc_Y ?_ ?_ <;> intro _) | fail)
    refine ok_meetT (γ := { g : Nat × HProp // Ext Q3 g.2 }) (fun g ρ L => Knows ρ [(3, .pointer (some ⟨b3, 0, none⟩)), (7, .pointer (some ⟨b, 0, none⟩)), (10, .pointer (some ⟨bc, 0, none⟩)), (16, .int .i64 a), (17, .pointer (some ⟨b17, 0, none⟩)), (18, .bool had), (20, .int .i64 c), (21, .pointer (some ⟨g.1.1, 0, none⟩)), (22, .bool has)] ∧
        L = [relP g.1.2 b r', relP g.1.2 bc r, g.1.2, pts b3 (.cells [.slice (some ⟨bv, ov, none⟩) (ts.map tbV).length cv].toArray 24), pts b17 (.cells [.int .u8 ak, .int .i64 ai, .int .u64 ar, .string as0].toArray 28), pts g.1.1 (.cells [.int .u8 ck, .int .i64 ci, .int .u64 cr, .string cs0].toArray 28)] ++ R) ?_ ?_
    · refine ok_draw_forkQ (cv := []) 7 13 [7, 13] [Q3, pts b5 (.cells [.int .u8 okd, .int .i64 (um : Int), .slice po (orow.map valV).length co].toArray 64)] (by decide) (by kernel_rfl) rfl (by decide +kernel) (by decide +kernel) (takePre takeD) ?_
      repeat' (first | (refine go_Y ?_; intros) | (refine gs_Y ?_ ?_ <;> (intro hgd; try (simp only [Bool.not_true, Bool.not_false] at hgd))) | (refine gc_Y ?_ ?_ <;> intro _) | fail)
      have hrB1 := hrB Q3 hQ3
      refine cont_forkQ (cv := []) rfl (by decide) rfl rfl rfl rfl rfl rfl (takePre takeD) (by decide +kernel) (by decide +kernel) ?_ ?_
      · repeat' (first | (refine go_Y ?_; intros) | (refine gs_Y ?_ ?_ <;> (intro hgd; try (simp only [Bool.not_true, Bool.not_false] at hgd))) | (refine gc_Y ?_ ?_ <;> intro _) | fail)
        refine ops_run (s_call_nb (by (repeat (first | exact EvA.nil | (apply EvA.cons; (focus ((conv => lhs; whnf); first | done | rfl)))))) hrB1 takeD rfl (fun y hy h s => ext_in hy (takePre (pre := [y, pts b5 (.cells [.int .u8 okd, .int .i64 (um : Int), .slice po (orow.map valV).length co].toArray 64)]) takeD h s)) ?_)
        intro Q4 hQ4
        repeat' (first | (refine go_Y ?_; intros) | (refine gs_Y ?_ ?_ <;> (intro hgd; try (simp only [Bool.not_true, Bool.not_false] at hgd))) | (refine gc_Y ?_ ?_ <;> intro _) | fail)
        refine ops_run (s_alloc_nb rfl rfl (fun h s => ext_in hQ4 (takePre (pre := [Q4, pts b5 (.cells [.int .u8 okd, .int .i64 (um : Int), .slice po (orow.map valV).length co].toArray 64)]) takeD h s)) ?_)
        intro b21
        repeat' (first | (refine go_Y ?_; intros) | (refine gs_Y ?_ ?_ <;> (intro hgd; try (simp only [Bool.not_true, Bool.not_false] at hgd))) | (refine gc_Y ?_ ?_ <;> intro _) | fail)
        refine cont_map (fun _ h => relP_ext hQ4 (b := bc) (r := r) (Take.out1 (A := relP Q3 bc r) takeD h)) ?_
        refine cont_map (L' := [relP Q4 b r', relP Q4 bc r, Q4, pts b3 (.cells [.slice (some ⟨bv, ov, none⟩) (ts.map tbV).length cv].toArray 24), pts b17 (.cells [.int .u8 ak, .int .i64 ai, .int .u64 ar, .string as0].toArray 28), pts b21 (.cells [.int .u8 ck, .int .i64 ci, .int .u64 cr, .string cs0].toArray 28)] ++ R) entD ?_
        exact cont_meet ⟨(b21, Q4), hQ4⟩ ⟨⟨rfl, rfl, rfl, rfl, rfl, rfl, rfl, rfl, rfl, trivial⟩, rfl⟩
      · intro b21
        repeat' (first | (refine go_Y ?_; intros) | (refine gs_Y ?_ ?_ <;> (intro hgd; try (simp only [Bool.not_true, Bool.not_false] at hgd))) | (refine gc_Y ?_ ?_ <;> intro _) | fail)
        refine ops_run (s_call_nb (by (repeat (first | exact EvA.nil | (apply EvA.cons; (focus ((conv => lhs; whnf); first | done | rfl)))))) hrB1 takeD rfl (fun y hy h s => ext_in hy (takePre (pre := [y, pts b5 (.cells [.int .u8 okd, .int .i64 (um : Int), .slice po (orow.map valV).length co].toArray 64)]) takeD h s)) ?_)
        intro Q4 hQ4
        repeat' (first | (refine go_Y ?_; intros) | (refine gs_Y ?_ ?_ <;> (intro hgd; try (simp only [Bool.not_true, Bool.not_false] at hgd))) | (refine gc_Y ?_ ?_ <;> intro _) | fail)
        refine cont_late rfl ?_
        repeat' (first | (refine go_Y ?_; intros) | (refine gs_Y ?_ ?_ <;> (intro hgd; try (simp only [Bool.not_true, Bool.not_false] at hgd))) | (refine gc_Y ?_ ?_ <;> intro _) | fail)
        refine cont_map (fun _ h => relP_ext hQ4 (b := bc) (r := r) (Take.out1 (A := relP Q3 bc r) takeD h)) ?_
        refine cont_map (L' := [relP Q4 b r', relP Q4 bc r, Q4, pts b3 (.cells [.slice (some ⟨bv, ov, none⟩) (ts.map tbV).length cv].toArray 24), pts b17 (.cells [.int .u8 ak, .int .i64 ai, .int .u64 ar, .string as0].toArray 28), pts b21 (.cells [.int .u8 ck, .int .i64 ci, .int .u64 cr, .string cs0].toArray 28)] ++ R) entD ?_
        exact cont_meet ⟨(b21, Q4), hQ4⟩ ⟨⟨rfl, rfl, rfl, rfl, rfl, rfl, rfl, rfl, rfl, trivial⟩, rfl⟩
    rintro ⟨⟨b21, Q4⟩, hQ4⟩ ρ L ⟨hk, rfl⟩
    dsimp only at hQ4 hk ⊢
    refine cont_regs hk ?_
    repeat' (first | (refine go_Y ?_; intros) | (refine gs_Y ?_ ?_ <;> (intro hgd; try (simp only [Bool.not_true, Bool.not_false] at hgd))) | (refine gc_Y ?_ ?_ <;> intro _) | fail)
    have hE4 := hE2.trans (hQ3.trans hQ4)
    have hsv4 := hsv.ext hE4
    refine ok_map (L' := [relP Q4 b r', relP Q4 bc r, Q4, pts b3 (.cells [.slice (some ⟨bv, ov, none⟩) (ts.map tbV).length cv].toArray 24), pts b17 (.cells [.int .u8 ak, .int .i64 ai, .int .u64 ar, .string as0].toArray 28), pts b21 (.cells [.int .u8 ck, .int .i64 ci, .int .u64 cr, .string cs0].toArray 28)] ++ R) entD ?_
    refine ok_loop' (γ := Nat × GPl2 Q4) (fun g ρ L => g.1 ≤ ts.length ∧ Knows ρ [(3, .pointer (some ⟨b3, 0, none⟩)), (7, .pointer (some ⟨b, 0, none⟩)), (10, .pointer (some ⟨bc, 0, none⟩)), (16, .int .i64 a), (17, .pointer (some ⟨b17, 0, none⟩)), (18, .bool had), (20, .int .i64 c), (21, .pointer (some ⟨b21, 0, none⟩)), (22, .bool has), (24, .int .i64 (g.1 : Int))] ∧
        L = [relP g.2.1 b r', relP g.2.1 bc r, g.2.1, pts b3 (.cells [.slice (some ⟨bv, ov, none⟩) (ts.map tbV).length cv].toArray 24), pts b17 (.cells [.int .u8 ak, .int .i64 ai, .int .u64 ar, .string as0].toArray 28), pts b21 (.cells [.int .u8 ck, .int .i64 ci, .int .u64 cr, .string cs0].toArray 28)] ++ R) (fun g => ts.length - g.1)
      (0, ⟨Q4, Ext.refl Q4⟩) ⟨by simp, ⟨rfl, rfl, rfl, rfl, rfl, rfl, rfl, rfl, rfl, rfl, trivial⟩, rfl⟩ ?_
    rintro ⟨m, ⟨Q, hQQ⟩⟩ ρ L ⟨hm, hk, rfl⟩
    dsimp only at hm hk ⊢
    refine ok_regs hk ?_
    have hEQ := hE4.trans hQQ
    cases t3 : decide ((m : Int) < ((ts.map tbV).length : Int)) with
    | false =>
      repeat' (first | (refine go_Y ?_; intros) | (refine gs_Y ?_ ?_ <;> (intro hgd; try (simp only [Bool.not_true, Bool.not_false] at hgd))) | (refine gc_Y ?_ ?_ <;> intro _) | fail)
      refine cl_Y (hal Q hEQ) ?_
      intro _ _
      repeat' (first | (refine go_Y ?_; intros) | (refine gs_Y ?_ ?_ <;> (intro hgd; try (simp only [Bool.not_true, Bool.not_false] at hgd))) | (refine gc_Y ?_ ?_ <;> intro _) | fail)
      (refine rt_Y (y := Q) (hrs := Tryz.results5) (hv := ?_) (hφ := ?_))
      · rfl
      · exact hEA0.trans hEQ
    | true =>
    have hm0 : m < ts.length := by have := of_decide_eq_true t3; omega
    have hmx : (ts.map tbV)[m]? = some (tbV ts[m]) := by rw [List.getElem?_map, List.getElem?_eq_getElem hm0]; rfl
    have hmn : m < (ts.map tbV).length := by omega
    have htai : tabAt r.s (m : Int) = ts[m].c := by
      rw [hrs]
      unfold tabAt
      rw [Int.toNat_natCast, List.getElem?_map, List.getElem?_eq_getElem hm0]; rfl
    repeat' (first | (refine go_Y ?_; intros) | (refine gs_Y ?_ ?_ <;> (intro hgd; try (simp only [Bool.not_true, Bool.not_false] at hgd))) | (refine gc_Y ?_ ?_ <;> intro _) | fail)
    refine cl_Y (relRows_spec b r' (m : Int) Q hok' hwf') ?_
    rintro ⟨⟨vl, hvl⟩, l, Q5⟩ ⟨hQ5, hlw, hlo⟩
    dsimp only at hQ5 hlw hlo ⊢
    refine opsL_mapL (fun _ h => relP_ext hQ5 (b := bc) (r := r) (Take.out1 (A := relP Q bc r) takeD h)) ?_
    have hll := rowsAt_len hok' (m : Int) (fun _ => true)
    have hll2 := hlo.perm.length_eq
    rw [List.length_map] at hll2
    have hlo := hlo.uniq (hR'.ord (m : Int) _) rfl (.refl _)
    have llm : (l.map rwV).length = l.length := by simp
    have hE5 := hEQ.trans hQ5
    refine ops_learn (rowShapeS (e := 42) (n := 1) (v := vl) (xs := l.map rwV) (by decide) takeD) ?_
    rintro ⟨pl, cl, rfl, hcl, hsl⟩
    repeat' (first | (refine go_Y ?_; intros) | (refine gs_Y ?_ ?_ <;> (intro hgd; try (simp only [Bool.not_true, Bool.not_false] at hgd))) | (refine gc_Y ?_ ?_ <;> intro _) | fail)
    refine ok_map (L' := [relP Q5 b r', relP Q5 bc r, Q5, pts b3 (.cells [.slice (some ⟨bv, ov, none⟩) (ts.map tbV).length cv].toArray 24), pts b17 (.cells [.int .u8 ak, .int .i64 ai, .int .u64 ar, .string as0].toArray 28), pts b21 (.cells [.int .u8 ck, .int .i64 ci, .int .u64 cr, .string cs0].toArray 28), row 42 1 (.slice pl (l.map rwV).length cl) (l.map rwV)] ++ R) entD ?_
    refine ok_loop' (γ := Nat × GPl2 Q5) (fun g ρ L => g.1 ≤ l.length ∧ Knows ρ [(3, .pointer (some ⟨b3, 0, none⟩)), (7, .pointer (some ⟨b, 0, none⟩)), (10, .pointer (some ⟨bc, 0, none⟩)), (16, .int .i64 a), (17, .pointer (some ⟨b17, 0, none⟩)), (18, .bool had), (20, .int .i64 c), (21, .pointer (some ⟨b21, 0, none⟩)), (22, .bool has), (24, .int .i64 (m : Int)), (25, .slice pl (l.map rwV).length cl), (26, .int .i64 (g.1 : Int))] ∧
        L = [relP g.2.1 b r', relP g.2.1 bc r, g.2.1, pts b3 (.cells [.slice (some ⟨bv, ov, none⟩) (ts.map tbV).length cv].toArray 24), pts b17 (.cells [.int .u8 ak, .int .i64 ai, .int .u64 ar, .string as0].toArray 28), pts b21 (.cells [.int .u8 ck, .int .i64 ci, .int .u64 cr, .string cs0].toArray 28), row 42 1 (.slice pl (l.map rwV).length cl) (l.map rwV)] ++ R) (fun g => l.length - g.1)
      (0, ⟨Q5, Ext.refl Q5⟩) ⟨by simp, ⟨rfl, rfl, rfl, rfl, rfl, rfl, rfl, rfl, rfl, rfl, rfl, rfl, trivial⟩, rfl⟩ ?_
    rintro ⟨j, ⟨Q6, hQ6⟩⟩ ρ L ⟨hj, hk, rfl⟩
    dsimp only at hj hk ⊢
    refine ok_regs hk ?_
    have hE6 := hE5.trans hQ6
    have hvw6 := (hsv.ext hE6).vw
    cases t4 : decide ((j : Int) < ((l.map rwV).length : Int)) with
    | false =>
      repeat' (first | (refine go_Y ?_; intros) | (refine gs_Y ?_ ?_ <;> (intro hgd; try (simp only [Bool.not_true, Bool.not_false] at hgd))) | (refine gc_Y ?_ ?_ <;> intro _) | fail)
      refine cont_map (L' := [relP Q6 b r', relP Q6 bc r, Q6, pts b3 (.cells [.slice (some ⟨bv, ov, none⟩) (ts.map tbV).length cv].toArray 24), pts b17 (.cells [.int .u8 ak, .int .i64 ai, .int .u64 ar, .string as0].toArray 28), pts b21 (.cells [.int .u8 ck, .int .i64 ci, .int .u64 cr, .string cs0].toArray 28)] ++ R) entD ?_
      refine cont_back (m + 1, ⟨Q6, hQQ.trans (hQ5.trans hQ6)⟩) ⟨hm0, ⟨rfl, rfl, rfl, rfl, rfl, rfl, rfl, rfl, rfl, rfl, trivial⟩, rfl⟩ (by show ts.length - (m + 1) < ts.length - m; omega)
    | true =>
    have hj0 : j < l.length := by have := of_decide_eq_true t4; omega
    have hlj : l[j]? = some l[j] := List.getElem?_eq_getElem hj0
    have hjx : (l.map rwV)[j]? = some (rwV l[j]) := by rw [List.getElem?_map, hlj]; rfl
    have hjn : j < (l.map rwV).length := by omega
    have hmR : ((m : Int), l[j].2) ∈ R' := (mem_ofR.1 (by rw [← hlo]; exact List.mem_map_of_mem (List.getElem_mem hj0))).1
    have hlv := hQ6.vw (hlw _ (List.getElem_mem hj0))
    refine ok_learn (VwIn.base (n := 1) (p := pl) (len := (l.map rwV).length) (cap := cl) (xs := l.map rwV) (VwIn.there (VwIn.there (VwIn.there (VwIn.there (VwIn.there (VwIn.there (VwIn.here Vw.row))))))) (by intro e; rw [e] at hjn; simp at hjn)) ?_
    rintro ⟨bl, ol, rfl⟩
    generalize l[j] = x at hlj hjx hmR hlv
    obtain ⟨⟨xv, hxv⟩, xl⟩ := x
    dsimp only [rwV] at hjx hmR hlv
    have hro := hR'.row _ hmR
    dsimp only at hro
    rw [hsr'] at hro
    obtain ⟨hk1, hk2, hlen⟩ := rowS_key hro
    have hgm := (hR'.mem _).1 hmR
    have hgm' : aget ((m : Int), Pl.keyOf r.s (m : Int) xl) r'.rows = some xl := by rw [← hsr']; exact hgm
    have hkw : (Pl.keyOf r.s (m : Int) xl).wf := hwf' _ (aget_mem hgm') _ (List.mem_of_getElem? hk2)
    have hU6 := hU0.ext hE6
    have hloc := fun (hr0 : (tabAt r.s (m : Int)).par < 0) h5 h6 => doc_local hnear hR hR' (p0 := ((m : Int), xl)) hmR hr0 h5 h6 r.s.length
    have hofA := fun Q (e : Ext Q6 Q) h5 => aOf_some hR hok hwf bc (m : Int) (Pl.keyOf r.s (m : Int) xl) xl Q (hU6.ext e) hkw h5
    have hofB := fun Q (e : Ext Q6 Q) => aOf_some hR' hok' hwf' b (m : Int) (Pl.keyOf r.s (m : Int) xl) xl Q (hU6.ext e) hkw hgm'
    rw [hsr'] at hofB hloc
    have hmemA : ((m : Int), xl) ∈ R0 → aget ((m : Int), Pl.keyOf r.s (m : Int) xl) r.rows = some xl := fun h9 => (hR.mem _).1 h9
    have hA0 := hansA ((m : Int), xl)
    have hB0 := hansB ((m : Int), xl)
    dsimp only at hloc hA0 hB0
    rw [htai] at hk2 hlen hloc
    have hh : hasS (ts.map Tb.c) (m : Int) = true := by rw [← hrs]; simp only [rowS, Bool.and_eq_true] at hro; exact hro.1
    obtain ⟨_, _, _, htok0, _⟩ := hasS_tab hh
    rw [← hrs, htai] at htok0
    generalize ts[m] = tb at hmx hk2 hlen htok0 hloc
    obtain ⟨tn, cols, ⟨tcv, htcv⟩, tkey, ref, par⟩ := tb
    have k0 := htok0.key0
    have kL := htok0.keyL
    dsimp only [tbV, Tb.c] at hmx hk2 hlen k0 kL hloc
    cases t5 : decide (par < 0) with
    | false =>
      repeat' (first | (refine go_Y ?_; intros) | (refine gs_Y ?_ ?_ <;> (intro hgd; try (simp only [Bool.not_true, Bool.not_false] at hgd))) | (refine gc_Y ?_ ?_ <;> intro _) | fail)
      refine cont_map (L' := [relP Q6 b r', relP Q6 bc r, Q6, pts b3 (.cells [.slice (some ⟨bv, ov, none⟩) (ts.map tbV).length cv].toArray 24), pts b17 (.cells [.int .u8 ak, .int .i64 ai, .int .u64 ar, .string as0].toArray 28), pts b21 (.cells [.int .u8 ck, .int .i64 ci, .int .u64 cr, .string cs0].toArray 28)] ++ R) entD ?_
      refine cont_back (m + 1, ⟨Q6, hQQ.trans (hQ5.trans hQ6)⟩) ⟨hm0, ⟨rfl, rfl, rfl, rfl, rfl, rfl, rfl, rfl, rfl, rfl, trivial⟩, rfl⟩ (by show ts.length - (m + 1) < ts.length - m; omega)
    | true =>
    have hloc := hloc (of_decide_eq_true t5)
    generalize Pl.keyOf r.s (m : Int) xl = key at hk2 hkw hofA hofB hmemA hA0 hB0
    obtain ⟨km2, rfl⟩ : ∃ km2 : Nat, tkey = km2 := ⟨tkey.toNat, by omega⟩
    rw [Int.toNat_natCast] at hk2
    have hkl2 := (List.getElem?_eq_some_iff.1 hk2).1
    have hnk2 : km2 < (xl.map valV).length := by rw [List.length_map]; exact hkl2
    have hxk2 : (xl.map valV)[km2]? = some (valV key) := by rw [List.getElem?_map, hk2]; rfl
    have g4 : decide (((xl.map valV).length : Int) ≤ (km2 : Int)) = false := by simp only [decide_eq_false_iff_not]; omega
    refine ok_learn (VwIn.slice (VwIn.there (VwIn.there (VwIn.here hlv)))) ?_
    rintro ⟨px, cx, rfl⟩
    refine ok_learn (VwIn.base (n := 4) (xs := xl.map valV) (VwIn.there (VwIn.there (VwIn.here hlv))) (by intro e; rw [e] at hnk2; simp at hnk2)) ?_
    rintro ⟨bx2, ox2, rfl⟩
    have hqA := eqL_valV ⟨ak, ai, ar, as0⟩ key
    have hqB := eqL_valV ⟨ck, ci, cr, cs0⟩ key
    have hkk : ∃ z, z = key := ⟨_, rfl⟩
    obtain ⟨key0, hkk⟩ := hkk
    obtain ⟨yk, yi, yr, ys⟩ := key
    dsimp only [valV] at hxk2 hqA hqB
    have hA : (rootAt r ((um : Int), pk0) ≠ some ((m : Int), xl) ∧ (had = false ∨ (had = true ∧ decide (a = (m : Int)) = false) ∨ (had = true ∧ decide (a = (m : Int)) = true ∧ nilB BinOp.eql (eqL [TypeDesc.int .u8, TypeDesc.int .i64, TypeDesc.int .u64, TypeDesc.string] [Value.int .u8 ak, Value.int .i64 ai, Value.int .u64 ar, Value.string as0] [Value.int .u8 yk, Value.int .i64 yi, Value.int .u64 yr, Value.string ys]) = false))) ∨ (had = true ∧ decide (a = (m : Int)) = true ∧ nilB BinOp.eql (eqL [TypeDesc.int .u8, TypeDesc.int .i64, TypeDesc.int .u64, TypeDesc.string] [Value.int .u8 ak, Value.int .i64 ai, Value.int .u64 ar, Value.string as0] [Value.int .u8 yk, Value.int .i64 yi, Value.int .u64 yr, Value.string ys]) = true) := by
      have e : nilB BinOp.eql (eqL [TypeDesc.int .u8, TypeDesc.int .i64, TypeDesc.int .u64, TypeDesc.string] [Value.int .u8 ak, Value.int .i64 ai, Value.int .u64 ar, Value.string as0] [Value.int .u8 yk, Value.int .i64 yi, Value.int .u64 yr, Value.string ys]) = decide ((⟨ak, ai, ar, as0⟩ : Vl) = ⟨yk, yi, yr, ys⟩) := by simp only [nilB]; exact hqA
      rw [e]
      by_cases hh0 : had = true ∧ a = (m : Int) ∧ (⟨ak, ai, ar, as0⟩ : Vl) = ⟨yk, yi, yr, ys⟩
      · exact .inr ⟨hh0.1, by simpa using hh0.2.1, by simpa using hh0.2.2⟩
      · refine .inl ⟨fun h9 => hh0 ?_, ?_⟩
        · rw [hpk0] at h9
          exact hA0 h9
        · cases had
          · exact .inl rfl
          · cases ea : decide (a = (m : Int))
            · exact .inr (.inl ⟨rfl, rfl⟩)
            · refine .inr (.inr ⟨rfl, rfl, ?_⟩)
              simp only [decide_eq_false_iff_not]
              exact fun h9 => hh0 ⟨rfl, of_decide_eq_true ea, h9⟩
    have hB : (rootAt r' ((um : Int), pk0) ≠ some ((m : Int), xl) ∧ (has = false ∨ (has = true ∧ decide (c = (m : Int)) = false) ∨ (has = true ∧ decide (c = (m : Int)) = true ∧ nilB BinOp.eql (eqL [TypeDesc.int .u8, TypeDesc.int .i64, TypeDesc.int .u64, TypeDesc.string] [Value.int .u8 ck, Value.int .i64 ci, Value.int .u64 cr, Value.string cs0] [Value.int .u8 yk, Value.int .i64 yi, Value.int .u64 yr, Value.string ys]) = false))) ∨ (has = true ∧ decide (c = (m : Int)) = true ∧ nilB BinOp.eql (eqL [TypeDesc.int .u8, TypeDesc.int .i64, TypeDesc.int .u64, TypeDesc.string] [Value.int .u8 ck, Value.int .i64 ci, Value.int .u64 cr, Value.string cs0] [Value.int .u8 yk, Value.int .i64 yi, Value.int .u64 yr, Value.string ys]) = true) := by
      have e : nilB BinOp.eql (eqL [TypeDesc.int .u8, TypeDesc.int .i64, TypeDesc.int .u64, TypeDesc.string] [Value.int .u8 ck, Value.int .i64 ci, Value.int .u64 cr, Value.string cs0] [Value.int .u8 yk, Value.int .i64 yi, Value.int .u64 yr, Value.string ys]) = decide ((⟨ck, ci, cr, cs0⟩ : Vl) = ⟨yk, yi, yr, ys⟩) := by simp only [nilB]; exact hqB
      rw [e]
      by_cases hh0 : has = true ∧ c = (m : Int) ∧ (⟨ck, ci, cr, cs0⟩ : Vl) = ⟨yk, yi, yr, ys⟩
      · exact .inr ⟨hh0.1, by simpa using hh0.2.1, by simpa using hh0.2.2⟩
      · refine .inl ⟨fun h9 => hh0 ?_, ?_⟩
        · rw [hpk0] at h9
          exact hB0 h9
        · cases has
          · exact .inl rfl
          · cases ea : decide (c = (m : Int))
            · exact .inr (.inl ⟨rfl, rfl⟩)
            · refine .inr (.inr ⟨rfl, rfl, ?_⟩)
              simp only [decide_eq_false_iff_not]
              exact fun h9 => hh0 ⟨rfl, of_decide_eq_true ea, h9⟩
    clear hqA hqB
    rw [hpk0] at hA hB
    rcases hA with ⟨noA, hA⟩ | ⟨rfl, e1, e2⟩
    · rcases hB with ⟨noB, hB⟩ | ⟨rfl, e3, e4⟩
      · obtain ⟨hl1, hl2⟩ := hloc noA noB
        rcases hA with rfl | ⟨rfl, e1⟩ | ⟨rfl, e1, e2⟩ <;> rcases hB with rfl | ⟨rfl, e3⟩ | ⟨rfl, e3, e4⟩
        all_goals
          repeat' (first | (refine go_Y ?_; intros) | (refine gs_Y ?_ ?_ <;> (intro hgd; try (simp only [Bool.not_true, Bool.not_false] at hgd))) | (refine gc_Y ?_ ?_ <;> intro _) | fail)
          (apply ok_draw [12]; (focus (kernel_rfl)); (focus ((conv => lhs; whnf); first | done | rfl)); (focus (decide +kernel)); (focus (exact (fun _ h => h))))
          repeat' (first | (refine go_Y ?_; intros) | (refine gs_Y ?_ ?_ <;> (intro hgd; try (simp only [Bool.not_true, Bool.not_false] at hgd))) | (refine gc_Y ?_ ?_ <;> intro _) | fail)
          refine cl_Y (hofA Q6 (Ext.refl Q6) (hmemA hl1)) ?_
          rintro ⟨d1, Q7⟩ ⟨hQ7, hd1, he1⟩
          dsimp only at hQ7 hd1 he1 ⊢
          refine opsL_mapL (fun _ h => relP_ext hQ7 (b := b) (r := r') (Take.out1 (A := relP Q6 b r') takeD h)) ?_
          have hsz := docS_size hR.ok r.s.length hl1
          have hps := nodesD_pos (docS r.s R0 r.s.length (m : Int) xl)
          dsimp only at hsz
          have hpos : 0 < sizeS d1.c := by rw [he1, hsz.1]; omega
          obtain ⟨dt, ⟨dlv, hdlv⟩, drow, ⟨dkv, hdkv⟩, dk⟩ := d1
          have hone1 : oneCells [Value.int .i64 dt, dlv, dkv] = true := by
            simp only [oneCells, List.all_cons, List.all_nil, hdlv, hdkv, Bool.and_true]; rfl
          dsimp only [docV]
          repeat' (first | (refine go_Y ?_; intros) | (refine gs_Y ?_ ?_ <;> (intro hgd; try (simp only [Bool.not_true, Bool.not_false] at hgd))) | (refine gc_Y ?_ ?_ <;> intro _) | fail)
          refine cl_Y (hofB Q7 hQ7) ?_
          rintro ⟨d2, Q8⟩ ⟨hQ8, hd2, he2⟩
          dsimp only at hQ8 hd2 he2 ⊢
          refine opsL_mapL (fun _ h => relP_ext hQ8 (b := bc) (r := r) (Take.out1 (A := relP Q7 bc r) takeD h)) ?_
          rw [← hl2, ← he1] at he2
          have hsame := aSame_spec (hd1.ext hQ8) hd2
          rw [he2, (sameD_iff _ _).2 rfl, show decide (0 < sizeS (Dm.mk dt ⟨dlv, hdlv⟩ drow ⟨dkv, hdkv⟩ dk).c) = true from by simpa using hpos] at hsame
          simp only [Bool.and_self] at hsame
          obtain ⟨dt2, ⟨dlv2, hdlv2⟩, drow2, ⟨dkv2, hdkv2⟩, dk2⟩ := d2
          have hone2 : oneCells [Value.int .i64 dt2, dlv2, dkv2] = true := by
            simp only [oneCells, List.all_cons, List.all_nil, hdlv2, hdkv2, Bool.and_true]; rfl
          dsimp only [docV] at hsame ⊢
          repeat' (first | (refine go_Y ?_; intros) | (refine gs_Y ?_ ?_ <;> (intro hgd; try (simp only [Bool.not_true, Bool.not_false] at hgd))) | (refine gc_Y ?_ ?_ <;> intro _) | fail)
          refine cl_Y (hsame) ?_
          intro _ _
          repeat' (first | (refine go_Y ?_; intros) | (refine gs_Y ?_ ?_ <;> (intro hgd; try (simp only [Bool.not_true, Bool.not_false] at hgd))) | (refine gc_Y ?_ ?_ <;> intro _) | fail)
          refine cont_map (L' := [relP Q8 b r', relP Q8 bc r, Q8, pts b3 (.cells [.slice (some ⟨bv, ov, none⟩) (ts.map tbV).length cv].toArray 24), pts b17 (.cells [.int .u8 ak, .int .i64 ai, .int .u64 ar, .string as0].toArray 28), pts b21 (.cells [.int .u8 ck, .int .i64 ci, .int .u64 cr, .string cs0].toArray 28), row 42 1 (.slice (some ⟨bl, ol, none⟩) (l.map rwV).length cl) (l.map rwV)] ++ R) entD ?_
          refine cont_back (j + 1, ⟨Q8, hQ6.trans (hQ7.trans hQ8)⟩) ⟨hj0, ⟨rfl, rfl, rfl, rfl, rfl, rfl, rfl, rfl, rfl, rfl, rfl, rfl, trivial⟩, rfl⟩ (by show l.length - (j + 1) < l.length - j; omega)
      · rcases hA with rfl | ⟨rfl, e1⟩ | ⟨rfl, e1, e2⟩
        all_goals
          repeat' (first | (refine go_Y ?_; intros) | (refine gs_Y ?_ ?_ <;> (intro hgd; try (simp only [Bool.not_true, Bool.not_false] at hgd))) | (refine gc_Y ?_ ?_ <;> intro _) | fail)
          (apply ok_draw [12]; (focus (kernel_rfl)); (focus ((conv => lhs; whnf); first | done | rfl)); (focus (decide +kernel)); (focus (exact (fun _ h => h))))
          repeat' (first | (refine go_Y ?_; intros) | (refine gs_Y ?_ ?_ <;> (intro hgd; try (simp only [Bool.not_true, Bool.not_false] at hgd))) | (refine gc_Y ?_ ?_ <;> intro _) | fail)
          refine cont_map (L' := [relP Q6 b r', relP Q6 bc r, Q6, pts b3 (.cells [.slice (some ⟨bv, ov, none⟩) (ts.map tbV).length cv].toArray 24), pts b17 (.cells [.int .u8 ak, .int .i64 ai, .int .u64 ar, .string as0].toArray 28), pts b21 (.cells [.int .u8 ck, .int .i64 ci, .int .u64 cr, .string cs0].toArray 28), row 42 1 (.slice (some ⟨bl, ol, none⟩) (l.map rwV).length cl) (l.map rwV)] ++ R) entD ?_
          refine cont_back (j + 1, ⟨Q6, hQ6⟩) ⟨hj0, ⟨rfl, rfl, rfl, rfl, rfl, rfl, rfl, rfl, rfl, rfl, rfl, rfl, trivial⟩, rfl⟩ (by show l.length - (j + 1) < l.length - j; omega)
    · repeat' (first | (refine go_Y ?_; intros) | (refine gs_Y ?_ ?_ <;> (intro hgd; try (simp only [Bool.not_true, Bool.not_false] at hgd))) | (refine gc_Y ?_ ?_ <;> intro _) | fail)
      (apply ok_draw [12]; (focus (kernel_rfl)); (focus ((conv => lhs; whnf); first | done | rfl)); (focus (decide +kernel)); (focus (exact (fun _ h => h))))
      repeat' (first | (refine go_Y ?_; intros) | (refine gs_Y ?_ ?_ <;> (intro hgd; try (simp only [Bool.not_true, Bool.not_false] at hgd))) | (refine gc_Y ?_ ?_ <;> intro _) | fail)
      refine cont_map (L' := [relP Q6 b r', relP Q6 bc r, Q6, pts b3 (.cells [.slice (some ⟨bv, ov, none⟩) (ts.map tbV).length cv].toArray 24), pts b17 (.cells [.int .u8 ak, .int .i64 ai, .int .u64 ar, .string as0].toArray 28), pts b21 (.cells [.int .u8 ck, .int .i64 ci, .int .u64 cr, .string cs0].toArray 28), row 42 1 (.slice (some ⟨bl, ol, none⟩) (l.map rwV).length cl) (l.map rwV)] ++ R) entD ?_
      refine cont_back (j + 1, ⟨Q6, hQ6⟩) ⟨hj0, ⟨rfl, rfl, rfl, rfl, rfl, rfl, rfl, rfl, rfl, rfl, rfl, rfl, trivial⟩, rfl⟩ (by show l.length - (j + 1) < l.length - j; omega)
end Go.Proofs.YtphaegcoldpclaaGreatDoor
set_option linter.unusedSimpArgs false
set_option linter.unusedVariables false
set_option maxRecDepth 100000
namespace Go.Proofs.YtphaegcoldpclaaGreatDoor
open Go Go.Fx Go.Proofs Go.Pl
theorem AggLocal_spec (vs vo : Value) (ts : List Tb) (ops : List Om) (o : Om) (A : HProp) (hU : UT A) (hvc : vs.oneCell' = true) (h : SVr A vs ts) (ho : OsR A vo ops) (h1 : OmR A o)
    (hwops : ∀ q ∈ ops, ∀ v ∈ q.row, v.wf) (hwo : ∀ v ∈ o.row, v.wf) :
    FSpec Tryz.prog 5 [.agg #[vs], vo, .agg (opV o).toArray] [A] HProp (fun P' => Ext A P') (fun _ => .bool true) (fun P' => [P']) := by
  by_cases hk3 : o.kind = 3
  · exact AggLocal_specA vs vo ts ops o A hU hvc h ho h1 hwops hwo hk3
  · exact AggLocal_specB vs vo ts ops o A hU hvc h ho h1 hwops hwo hk3
end Go.Proofs.YtphaegcoldpclaaGreatDoor
